/-
  A plan of cells, in plain words: flow by flow, as the code has it, and cell by cell, as the document has it; they tell the same.
-/
import Derived.Test.YtfdmmfjheiiiiaaDoorBlk
namespace Go.Proofs.YtfdmmfjheiiiiaaDoor
open Go.RowKit

/-- The first place ahead of m at which f is k or more. -/
def firstUp (f : Nat → Int) (k : Int) : Nat → Int
  | 0 => -1
  | m + 1 => if firstUp f k m < 0 then (if k ≤ f m then (m : Int) else -1) else firstUp f k m
theorem firstUp_none {f : Nat → Int} {k : Int} : ∀ {m : Nat}, (∀ u, u < m → f u < k) → firstUp f k m = -1
  | 0, _ => rfl
  | m + 1, h => by
    rw [firstUp, firstUp_none (m := m) (fun u hu => h u (by omega)), if_pos (by decide), if_neg (by have := h m (by omega); omega)]
theorem firstUp_at {f : Nat → Int} {k : Int} : ∀ {m u : Nat}, u < m → k ≤ f u → (∀ v, v < u → f v < k) → firstUp f k m = (u : Int)
  | 0, u, h, _, _ => absurd h (by omega)
  | m + 1, u, h, hk, hv => by
    rw [firstUp]
    by_cases e : u = m
    · subst e
      rw [firstUp_none hv, if_pos (by decide), if_pos hk]
    · rw [firstUp_at (m := m) (u := u) (by omega) hk hv, if_neg (by omega)]
theorem firstUp_in (f : Nat → Int) (k : Int) : ∀ m, firstUp f k m = -1 ∨ 0 ≤ firstUp f k m ∧ firstUp f k m < (m : Int)
  | 0 => .inl rfl
  | m + 1 => by
    rw [firstUp]
    rcases firstUp_in f k m with h | h
    · rw [h, if_pos (by decide)]
      by_cases e : k ≤ f m
      · rw [if_pos e]; omega
      · rw [if_neg e]; exact .inl rfl
    · rw [if_neg (by omega)]; omega

def updN (f : Nat → Nat) (i x : Nat) : Nat → Nat := fun k => if k = i then x else f k
theorem updN_at (f : Nat → Nat) (i x : Nat) : updN f i x i = x := by simp [updN]
theorem updN_ne (f : Nat → Nat) {i k : Nat} (x : Nat) (h : k ≠ i) : updN f i x k = f k := by simp [updN, h]
def upd2 (h : Nat → Nat → Int) (i k : Nat) (x : Int) : Nat → Nat → Int := fun j l => if j = i ∧ l = k then x else h j l
theorem upd2_at (h : Nat → Nat → Int) (i k : Nat) (x : Int) : upd2 h i k x i k = x := by simp [upd2]
theorem upd2_ne (h : Nat → Nat → Int) {i k j l : Nat} (x : Int) (e : ¬ (j = i ∧ l = k)) : upd2 h i k x j l = h j l := by unfold upd2; rw [if_neg e]

/-- What is to be planned: n flows, T ticks; c i t: how many cells of flow i come ahead of tick t; D i k: by when its k-th is promised. -/
structure PlanP where
  n : Nat
  T : Nat
  c : Nat → Nat → Nat
  tot : Nat → Nat
  D : Nat → Nat → Int
  z : ∀ i, c i 0 = 0
  mono : ∀ i t, c i t ≤ c i (t + 1)
  le : ∀ i t, c i t ≤ tot i
  all : ∀ i, ∃ t, c i t = tot i
/-- How soon. -/
def soon (T : Nat) (d : Int) : Int := if d < 0 then (T : Int) + 1 else d
namespace PlanP
variable (P : PlanP)
def key (i k : Nat) : Int := soon P.T (P.D i k)
/-- Whose cell is sent at tick t, of the first i flows, if s were sent. -/
def pick (t : Nat) (s : Nat → Nat) : Nat → Int
  | 0 => -1
  | i + 1 => if s i < P.c i (t + 1) ∧ (pick t s i < 0 ∨ P.key i (s i) < P.key (pick t s i).toNat (s (pick t s i).toNat)) then (i : Int) else pick t s i
/-- How many were sent, and when they were through, ahead of tick t. -/
def run : Nat → (Nat → Nat) × (Nat → Nat → Int)
  | 0 => (fun _ => 0, fun _ _ => -1)
  | t + 1 =>
    if P.pick t (run t).1 P.n < 0 then run t
    else (updN (run t).1 (P.pick t (run t).1 P.n).toNat ((run t).1 (P.pick t (run t).1 P.n).toNat + 1),
      upd2 (run t).2 (P.pick t (run t).1 P.n).toNat ((run t).1 (P.pick t (run t).1 P.n).toNat) ((t : Int) + 1))
def best (t : Nat) : Int := P.pick t (P.run t).1 P.n
theorem pick_in (t : Nat) (s : Nat → Nat) : ∀ i, P.pick t s i < 0 ∨ 0 ≤ P.pick t s i ∧ P.pick t s i < (i : Int) ∧ s (P.pick t s i).toNat < P.c (P.pick t s i).toNat (t + 1)
  | 0 => .inl (by simp [pick])
  | i + 1 => by
    rw [pick]
    by_cases h : s i < P.c i (t + 1) ∧ (P.pick t s i < 0 ∨ P.key i (s i) < P.key (P.pick t s i).toNat (s (P.pick t s i).toNat))
    · rw [if_pos h]
      exact .inr ⟨by omega, by omega, by simpa using h.1⟩
    · rw [if_neg h]
      rcases pick_in t s i with h1 | h1
      · exact .inl h1
      · exact .inr ⟨h1.1, by omega, h1.2.2⟩
theorem run_neg {t : Nat} (h : P.best t < 0) : P.run (t + 1) = P.run t := by
  unfold best at h
  rw [run, if_pos h]
theorem run_pos {t b : Nat} (h : P.best t = (b : Int)) : P.run (t + 1) = (updN (P.run t).1 b ((P.run t).1 b + 1), upd2 (P.run t).2 b ((P.run t).1 b) ((t : Int) + 1)) := by
  unfold best at h
  rw [run, if_neg (by omega), h, Int.toNat_natCast]
theorem best_in (t : Nat) : P.best t < 0 ∨ ∃ b : Nat, P.best t = (b : Int) ∧ b < P.n ∧ (P.run t).1 b < P.c b (t + 1) := by
  rcases P.pick_in t (P.run t).1 P.n with h | h
  · exact .inl h
  · exact .inr ⟨(P.best t).toNat, (Int.toNat_of_nonneg h.1).symm, by have := h.2.1; unfold best; omega, h.2.2⟩
/-- What holds ahead of each tick. -/
theorem run_inv : ∀ t, (∀ i, (P.run t).1 i ≤ P.c i t) ∧ ∀ i k, (k < (P.run t).1 i → 1 ≤ (P.run t).2 i k) ∧ ((P.run t).1 i ≤ k → (P.run t).2 i k = -1)
  | 0 => ⟨fun i => Nat.zero_le _, fun i k => ⟨fun h => absurd h (by simp [run]), fun _ => rfl⟩⟩
  | t + 1 => by
    have hi := run_inv t
    rcases P.best_in t with h | ⟨b, h, hb, hc⟩
    · rw [P.run_neg h]
      exact ⟨fun i => Nat.le_trans (hi.1 i) (P.mono i t), hi.2⟩
    · rw [P.run_pos h]
      refine ⟨fun i => ?_, fun i k => ?_⟩
      · by_cases e : i = b
        · subst e; simp only [updN_at]; omega
        · simp only [updN_ne _ _ e]; exact Nat.le_trans (hi.1 i) (P.mono i t)
      · by_cases e : i = b
        · subst e
          simp only [updN_at]
          by_cases e2 : k = (P.run t).1 i
          · subst e2
            simp only [upd2_at]
            exact ⟨fun _ => by omega, fun h2 => by omega⟩
          · simp only [upd2_ne _ _ (show ¬ (i = i ∧ k = (P.run t).1 i) from fun h2 => e2 h2.2)]
            exact ⟨fun h2 => (hi.2 i k).1 (by omega), fun h2 => (hi.2 i k).2 (by omega)⟩
        · simp only [updN_ne _ _ e, upd2_ne _ _ (show ¬ (i = b ∧ k = (P.run t).1 b) from fun h2 => e h2.1)]
          exact hi.2 i k
end PlanP

/-- One cell of the document's. -/
structure Cel where
  fl : Nat
  at_ : Nat
  due : Int
def Cel.zero : Cel := ⟨0, 0, 0⟩
/-- May cell q be sent at tick t? -/
def firstC (L : List Cel) (thr : Nat → Int) (t q : Nat) : Prop :=
  ((L.getD q .zero).at_ ≤ t ∧ thr q < 0) ∧ ∀ o, o < q → (L.getD o .zero).fl = (L.getD q .zero).fl → 0 ≤ thr o
open Classical in
noncomputable def rpick (L : List Cel) (T : Nat) (thr : Nat → Int) (t : Nat) : Nat → Int
  | 0 => -1
  | q + 1 => if firstC L thr t q ∧ (rpick L T thr t q < 0 ∨ soon T (L.getD q .zero).due < soon T (L.getD (rpick L T thr t q).toNat .zero).due) then (q : Int) else rpick L T thr t q
noncomputable def rrun (L : List Cel) (T : Nat) : Nat → Nat → Int
  | 0 => fun _ => -1
  | t + 1 => if rpick L T (rrun L T t) t L.length < 0 then rrun L T t else upd (rrun L T t) (rpick L T (rrun L T t) t L.length).toNat ((t : Int) + 1)
noncomputable def rbest (L : List Cel) (T t : Nat) : Int := rpick L T (rrun L T t) t L.length
noncomputable def rsent (L : List Cel) (T t : Nat) : Int := if rbest L T t < 0 then -1 else ((L.getD (rbest L T t).toNat .zero).fl : Int)
/-- What the cells of flow i tell, one behind the other. -/
def gather (L : List Cel) (f : Nat → Int) (i : Nat) : Nat → List Int
  | 0 => []
  | q + 1 => if (L.getD q .zero).fl = i then gather L f i q ++ [f q] else gather L f i q

/-- At which tick the k-th cell of flow i comes. -/
def atOf (c : Nat → Nat) (k : Nat) : Nat → Nat
  | 0 => 0
  | t + 1 => if k < c t then atOf c k t else t
namespace PlanP
variable (P : PlanP)
theorem c_mono (i : Nat) {a b : Nat} (h : a ≤ b) : P.c i a ≤ P.c i b := by
  induction b with
  | zero => obtain rfl : a = 0 := by omega
            exact Nat.le_refl _
  | succ b ih =>
    rcases Nat.lt_or_ge b a with h1 | h1
    · obtain rfl : a = b + 1 := by omega
      exact Nat.le_refl _
    · exact Nat.le_trans (ih h1) (P.mono i b)
/-- comesAt: cell k of flow i comes at tick t. -/
def comesAt (i k t : Nat) : Prop := P.c i t ≤ k ∧ k < P.c i (t + 1)
theorem comes_ex (i : Nat) {k : Nat} (h : k < P.tot i) : ∃ t, P.comesAt i k t := by
  obtain ⟨m, hm⟩ := P.all i
  rw [← hm] at h
  clear hm
  induction m with
  | zero => rw [P.z] at h; omega
  | succ m ih =>
    rcases Nat.lt_or_ge k (P.c i m) with h1 | h1
    · exact ih h1
    · exact ⟨m, h1, h⟩
theorem comes_iff {i k t u : Nat} (h : P.comesAt i k t) : t ≤ u ↔ k < P.c i (u + 1) := by
  constructor
  · intro hu; exact Nat.lt_of_lt_of_le h.2 (P.c_mono i (by omega))
  · intro hu
    rcases Nat.lt_or_ge u t with h1 | h1
    · have := P.c_mono i (show u + 1 ≤ t by omega); have := h.1; omega
    · exact h1
/-- Where the cells of flow i begin. -/
def off : Nat → Nat
  | 0 => 0
  | i + 1 => off i + P.tot i
theorem off_mono {a b : Nat} (h : a ≤ b) : P.off a ≤ P.off b := by
  induction b with
  | zero => obtain rfl : a = 0 := by omega
            exact Nat.le_refl _
  | succ b ih =>
    rcases Nat.lt_or_ge b a with h1 | h1
    · obtain rfl : a = b + 1 := by omega
      exact Nat.le_refl _
    · exact Nat.le_trans (ih h1) (Nat.le_add_right _ _)
theorem off_split : ∀ {m q : Nat}, q < P.off m → ∃ i k, i < m ∧ k < P.tot i ∧ q = P.off i + k
  | 0, q, h => absurd h (by simp [off])
  | m + 1, q, h => by
    rcases Nat.lt_or_ge q (P.off m) with h1 | h1
    · obtain ⟨i, k, a, b, c⟩ := off_split h1
      exact ⟨i, k, by omega, b, c⟩
    · exact ⟨m, q - P.off m, by omega, by rw [off] at h; omega, by omega⟩
theorem off_lt {i j k l : Nat} (hk : k < P.tot i) (hl : l < P.tot j) : P.off i + k < P.off j + l ↔ i < j ∨ i = j ∧ k < l := by
  rcases Nat.lt_trichotomy i j with h | h | h
  · have := P.off_mono (show i + 1 ≤ j by omega)
    rw [off] at this
    exact ⟨fun _ => .inl h, fun _ => by omega⟩
  · subst h
    exact ⟨fun _ => .inr ⟨rfl, by omega⟩, fun _ => by omega⟩
  · have := P.off_mono (show j + 1 ≤ i by omega)
    rw [off] at this
    exact ⟨fun _ => by omega, fun h2 => by omega⟩
/-- The document's cells are this plan's. -/
structure Has (L : List Cel) : Prop where
  len : L.length = P.off P.n
  fl : ∀ i k, i < P.n → k < P.tot i → (L.getD (P.off i + k) .zero).fl = i
  at_ : ∀ i k, i < P.n → k < P.tot i → P.comesAt i k (L.getD (P.off i + k) .zero).at_
  due : ∀ i k, i < P.n → k < P.tot i → (L.getD (P.off i + k) .zero).due = P.D i k
variable {P} {L : List Cel}
theorem Has.first (h : P.Has L) {thr : Nat → Int} {s : Nat → Nat} {hh : Nat → Nat → Int} (ht : ∀ i k, i < P.n → k < P.tot i → thr (P.off i + k) = hh i k)
    (hs : ∀ i k, (k < s i → 1 ≤ hh i k) ∧ (s i ≤ k → hh i k = -1)) {t i k : Nat} (hi : i < P.n) (hk : k < P.tot i) : firstC L thr t (P.off i + k) ↔ k = s i ∧ k < P.c i (t + 1) := by
  unfold firstC
  rw [h.fl i k hi hk, ht i k hi hk, P.comes_iff (h.at_ i k hi hk)]
  constructor
  · rintro ⟨⟨h1, h2⟩, h3⟩
    refine ⟨?_, h1⟩
    rcases Nat.lt_trichotomy k (s i) with e | e | e
    · have := (hs i k).1 e; omega
    · exact e
    · have h4 := h3 (P.off i + s i) (by omega) (by rw [h.fl i (s i) hi (by omega)])
      rw [ht i (s i) hi (by omega), (hs i (s i)).2 (Nat.le_refl _)] at h4
      omega
  · rintro ⟨h1, h2⟩
    refine ⟨⟨h2, by rw [(hs i k).2 (by omega)]; decide⟩, fun o ho hf => ?_⟩
    obtain ⟨j, l, hj, hl, rfl⟩ := P.off_split (show o < P.off P.n by
      have := P.off_mono (show i + 1 ≤ P.n by omega); rw [off] at this; omega)
    rw [h.fl j l hj hl] at hf
    subst hf
    rw [ht j l hj hl]
    have := (hs j l).1 (by omega)
    omega
end PlanP
theorem rpick_spec (L : List Cel) (T : Nat) (thr : Nat → Int) (t : Nat) : ∀ m, (rpick L T thr t m < 0 ∧ ∀ q, q < m → ¬ firstC L thr t q) ∨
    ∃ q : Nat, rpick L T thr t m = (q : Int) ∧ q < m ∧ firstC L thr t q ∧ ∀ o, o < m → firstC L thr t o → soon T (L.getD q .zero).due < soon T (L.getD o .zero).due ∨ soon T (L.getD q .zero).due = soon T (L.getD o .zero).due ∧ q ≤ o
  | 0 => .inl ⟨by simp [rpick], fun q hq => absurd hq (by omega)⟩
  | m + 1 => by
    rw [rpick]
    by_cases hf : firstC L thr t m
    · rcases rpick_spec L T thr t m with ⟨h1, h2⟩ | ⟨q, h1, h2, h3, h4⟩
      · rw [if_pos ⟨hf, .inl h1⟩]
        refine .inr ⟨m, rfl, by omega, hf, fun o ho hfo => ?_⟩
        rcases Nat.lt_or_ge o m with e | e
        · exact absurd hfo (h2 o e)
        · obtain rfl : o = m := by omega
          exact .inr ⟨rfl, Nat.le_refl _⟩
      · rw [h1, Int.toNat_natCast]
        by_cases hl : soon T (L.getD m .zero).due < soon T (L.getD q .zero).due
        · rw [if_pos ⟨hf, .inr hl⟩]
          refine .inr ⟨m, rfl, by omega, hf, fun o ho hfo => ?_⟩
          rcases Nat.lt_or_ge o m with e | e
          · rcases h4 o e hfo with h5 | h5
            · exact .inl (by omega)
            · exact .inl (by omega)
          · obtain rfl : o = m := by omega
            exact .inr ⟨rfl, Nat.le_refl _⟩
        · rw [if_neg (by rintro ⟨_, h5 | h5⟩ <;> omega)]
          refine .inr ⟨q, rfl, by omega, h3, fun o ho hfo => ?_⟩
          rcases Nat.lt_or_ge o m with e | e
          · exact h4 o e hfo
          · obtain rfl : o = m := by omega
            rcases Int.lt_or_le (soon T (L.getD q .zero).due) (soon T (L.getD o .zero).due) with h5 | h5
            · exact .inl h5
            · exact .inr ⟨by omega, by omega⟩
    · rw [if_neg (fun h => hf h.1)]
      rcases rpick_spec L T thr t m with ⟨h1, h2⟩ | ⟨q, h1, h2, h3, h4⟩
      · refine .inl ⟨h1, fun o ho => ?_⟩
        rcases Nat.lt_or_ge o m with e | e
        · exact h2 o e
        · obtain rfl : o = m := by omega
          exact hf
      · refine .inr ⟨q, h1, by omega, h3, fun o ho hfo => ?_⟩
        rcases Nat.lt_or_ge o m with e | e
        · exact h4 o e hfo
        · obtain rfl : o = m := by omega
          exact absurd hfo hf
namespace PlanP
variable (P : PlanP)
theorem pick_spec (t : Nat) (s : Nat → Nat) : ∀ m, (P.pick t s m < 0 ∧ ∀ i, i < m → ¬ s i < P.c i (t + 1)) ∨
    ∃ i : Nat, P.pick t s m = (i : Int) ∧ i < m ∧ s i < P.c i (t + 1) ∧ ∀ j, j < m → s j < P.c j (t + 1) → P.key i (s i) < P.key j (s j) ∨ P.key i (s i) = P.key j (s j) ∧ i ≤ j
  | 0 => .inl ⟨by simp [pick], fun q hq => absurd hq (by omega)⟩
  | m + 1 => by
    rw [pick]
    by_cases hf : s m < P.c m (t + 1)
    · rcases pick_spec t s m with ⟨h1, h2⟩ | ⟨q, h1, h2, h3, h4⟩
      · rw [if_pos ⟨hf, .inl h1⟩]
        refine .inr ⟨m, rfl, by omega, hf, fun o ho hfo => ?_⟩
        rcases Nat.lt_or_ge o m with e | e
        · exact absurd hfo (h2 o e)
        · obtain rfl : o = m := by omega
          exact .inr ⟨rfl, Nat.le_refl _⟩
      · rw [h1, Int.toNat_natCast]
        by_cases hl : P.key m (s m) < P.key q (s q)
        · rw [if_pos ⟨hf, .inr hl⟩]
          refine .inr ⟨m, rfl, by omega, hf, fun o ho hfo => ?_⟩
          rcases Nat.lt_or_ge o m with e | e
          · rcases h4 o e hfo with h5 | h5
            · exact .inl (by omega)
            · exact .inl (by omega)
          · obtain rfl : o = m := by omega
            exact .inr ⟨rfl, Nat.le_refl _⟩
        · rw [if_neg (by rintro ⟨_, h5 | h5⟩ <;> omega)]
          refine .inr ⟨q, rfl, by omega, h3, fun o ho hfo => ?_⟩
          rcases Nat.lt_or_ge o m with e | e
          · exact h4 o e hfo
          · obtain rfl : o = m := by omega
            rcases Int.lt_or_le (P.key q (s q)) (P.key o (s o)) with h5 | h5
            · exact .inl h5
            · exact .inr ⟨by omega, by omega⟩
    · rw [if_neg (fun h => hf h.1)]
      rcases pick_spec t s m with ⟨h1, h2⟩ | ⟨q, h1, h2, h3, h4⟩
      · refine .inl ⟨h1, fun o ho => ?_⟩
        rcases Nat.lt_or_ge o m with e | e
        · exact h2 o e
        · obtain rfl : o = m := by omega
          exact hf
      · refine .inr ⟨q, h1, by omega, h3, fun o ho hfo => ?_⟩
        rcases Nat.lt_or_ge o m with e | e
        · exact h4 o e hfo
        · obtain rfl : o = m := by omega
          exact absurd hfo hf
variable {P} {L : List Cel}
/-- Both choose the same. -/
theorem Has.same (h : P.Has L) {thr : Nat → Int} {s : Nat → Nat} {hh : Nat → Nat → Int} (ht : ∀ i k, i < P.n → k < P.tot i → thr (P.off i + k) = hh i k)
    (hs : ∀ i k, (k < s i → 1 ≤ hh i k) ∧ (s i ≤ k → hh i k = -1)) (t : Nat) :
    (P.pick t s P.n < 0 ∧ rpick L P.T thr t L.length < 0) ∨ ∃ i : Nat, P.pick t s P.n = (i : Int) ∧ i < P.n ∧ s i < P.tot i ∧ rpick L P.T thr t L.length = ((P.off i + s i : Nat) : Int) := by
  have hd : ∀ {i k : Nat}, i < P.n → k < P.tot i → P.off i + k < L.length := fun {i k} hi hk => by
    have := P.off_mono (show i + 1 ≤ P.n by omega)
    rw [off] at this
    rw [h.len]
    omega
  rcases P.pick_spec t s P.n with ⟨h1, h2⟩ | ⟨i, h1, h2, h3, h4⟩
  · refine .inl ⟨h1, ?_⟩
    rcases rpick_spec L P.T thr t L.length with h5 | ⟨q, h5, h6, h7, _⟩
    · exact h5.1
    · rw [h.len] at h6
      obtain ⟨j, l, hj, hl, rfl⟩ := P.off_split h6
      obtain ⟨h8, h9⟩ := (h.first ht hs hj hl).1 h7
      exact absurd (by rw [← h8]; exact h9) (h2 j hj)
  · have hti : s i < P.tot i := Nat.lt_of_lt_of_le h3 (P.le i _)
    refine .inr ⟨i, h1, h2, hti, ?_⟩
    have hf : firstC L thr t (P.off i + s i) := (h.first ht hs h2 hti).2 ⟨rfl, h3⟩
    rcases rpick_spec L P.T thr t L.length with h5 | ⟨q, h5, h6, h7, h8⟩
    · exact absurd hf (h5.2 _ (hd h2 hti))
    · have h6' := h6
      rw [h.len] at h6'
      obtain ⟨j, l, hj, hl, rfl⟩ := P.off_split h6'
      obtain ⟨h9, h10⟩ := (h.first ht hs hj hl).1 h7
      subst h9
      have a1 := h4 j hj h10
      have a2 := h8 _ (hd h2 hti) hf
      rw [h.due j (s j) hj hl, h.due i (s i) h2 hti] at a2
      unfold key at a1
      rw [h5]
      have : i = j := by
        rcases Nat.lt_trichotomy i j with e | e | e
        · have := (P.off_lt hti hl).2 (.inl e); omega
        · exact e
        · omega
      rw [this]
theorem Has.rel (h : P.Has L) : ∀ t, (∀ i k, i < P.n → k < P.tot i → rrun L P.T t (P.off i + k) = (P.run t).2 i k) := by
  intro t
  induction t with
  | zero => intro i k _ _; rfl
  | succ t ih =>
    have hs := (P.run_inv t).2
    intro i k hi hk
    rcases h.same ih hs t with ⟨h1, h2⟩ | ⟨b, h1, h2, h3, h4⟩
    · rw [P.run_neg h1, rrun, if_pos h2]
      exact ih i k hi hk
    · rw [P.run_pos h1, rrun, if_neg (by omega), h4, Int.toNat_natCast]
      by_cases e : i = b ∧ k = (P.run t).1 b
      · obtain ⟨rfl, rfl⟩ := e
        rw [upd_at]
        simp only [upd2_at]
      · rw [upd_ne _ _ (fun e2 => e (by
          rcases Nat.lt_trichotomy i b with e3 | e3 | e3
          · have := (P.off_lt hk h3).2 (.inl e3); omega
          · subst e3; exact ⟨rfl, by omega⟩
          · have := (P.off_lt h3 hk).2 (.inl e3); omega))]
        simp only [upd2_ne _ _ e]
        exact ih i k hi hk
/-- Whose cell is sent is the same. -/
theorem Has.sent (h : P.Has L) (t : Nat) : rsent L P.T t = if P.best t < 0 then -1 else P.best t := by
  unfold rsent rbest best
  rcases h.same (h.rel t) (P.run_inv t).2 t with ⟨h1, h2⟩ | ⟨b, h1, h2, h3, h4⟩
  · rw [if_pos h1, if_pos h2]
  · rw [h1, h4, Int.toNat_natCast, if_neg (by omega), if_neg (by omega), h.fl b _ h2 h3]
theorem best_tidy (t : Nat) : (if P.best t < 0 then -1 else P.best t) = P.best t := by
  by_cases h : P.best t < 0
  · rw [if_pos h]
    have : ∀ i, P.pick t (P.run t).1 i < 0 → P.pick t (P.run t).1 i = -1 := by
      intro i
      induction i with
      | zero => intro _; rfl
      | succ i ih =>
        rw [pick]
        split
        · intro h2; omega
        · exact ih
    exact (this P.n h).symm
  · rw [if_neg h]
theorem Has.gather_to (h : P.Has L) {f : Nat → Int} {g : Nat → Nat → Int} (hf : ∀ i k, i < P.n → k < P.tot i → f (P.off i + k) = g i k) {i : Nat} (hi : i < P.n) : ∀ j, j ≤ P.n → ∀ k, (k = 0 ∨ j < P.n ∧ k ≤ P.tot j) → gather L f i (P.off j + k) = if j < i then [] else if j = i then (List.range k).map (g i) else (List.range (P.tot i)).map (g i) := by
  intro j
  induction j with
  | zero =>
    intro hj k
    induction k with
    | zero =>
      intro _
      show gather L f i 0 = _
      rw [gather]
      by_cases e : 0 < i
      · rw [if_pos e]
      · rw [if_neg e, if_pos (by omega)]; rfl
    | succ k ih =>
      intro hk
      show gather L f i (P.off 0 + k + 1) = _
      rw [gather, h.fl 0 k (by omega) (by omega), ih (by omega)]
      by_cases e : 0 < i
      · rw [if_neg (by omega), if_pos e, if_pos e]
      · obtain rfl : i = 0 := by omega
        rw [if_pos rfl, if_neg e, if_pos rfl, if_neg e, if_pos rfl, List.range_succ, List.map_append, hf 0 k hi (by omega)]; rfl
  | succ j ihj =>
    intro hj k
    induction k with
    | zero =>
      intro _
      have h1 := ihj (by omega) (P.tot j) (.inr ⟨by omega, Nat.le_refl _⟩)
      show gather L f i (P.off j + P.tot j) = _
      rw [h1]
      rcases Nat.lt_trichotomy j i with e | e | e
      · rw [if_pos e]
        by_cases e2 : j + 1 = i
        · rw [if_neg (by omega), if_pos e2]; rfl
        · rw [if_pos (by omega)]
      · subst e
        rw [if_neg (by omega), if_pos rfl, if_neg (by omega), if_neg (by omega)]
      · rw [if_neg (by omega), if_neg (by omega), if_neg (by omega), if_neg (by omega)]
    | succ k ih =>
      intro hk
      show gather L f i (P.off (j + 1) + k + 1) = _
      rw [gather, h.fl (j + 1) k (by omega) (by omega), ih (by omega)]
      rcases Nat.lt_trichotomy (j + 1) i with e | e | e
      · rw [if_neg (by omega), if_pos e, if_pos e]
      · rw [if_pos e, if_neg (by omega), if_pos e, if_neg (by omega), if_pos e, List.range_succ, List.map_append]
        subst e
        rw [hf _ k hi (by omega)]; rfl
      · rw [if_neg (by omega), if_neg (by omega), if_neg (by omega), if_neg (by omega), if_neg (by omega)]
/-- What the cells of a flow tell is what the flow tells. -/
theorem Has.gathers (h : P.Has L) {f : Nat → Int} {g : Nat → Nat → Int} (hf : ∀ i k, i < P.n → k < P.tot i → f (P.off i + k) = g i k) {i : Nat} (hi : i < P.n) : gather L f i L.length = (List.range (P.tot i)).map (g i) := by
  have h1 := h.gather_to hf hi P.n (Nat.le_refl _) 0 (.inl rfl)
  rw [Nat.add_zero] at h1
  rw [h.len, h1, if_neg (by omega), if_neg (by omega)]
end PlanP
end Go.Proofs.YtfdmmfjheiiiiaaDoor

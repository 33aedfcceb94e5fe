/-
  Buckets: colors by one rate and two rooms; cells. Plain laws; rationals of one denominator.
-/
import Derived.Test.YtogmjjaoflaogaaGreatDoorBktF
import Derived.Test.YtogmjjaoflaogaaGreatDoorItemB
namespace Go.Proofs.YtogmjjaoflaogaaGreatDoor
open Go.RowKit

/-- What one packet makes: rt is the room, et the excess one's, q what came in between, m what is wanted (all times t). -/
def oneStep (rt et q m : Int) (s : Int × Int) : Int × (Int × Int) :=
  if rt < s.1 + q then
    (if m ≤ rt then (1, (rt - m, min et (s.2 + (s.1 + q - rt)))) else if m ≤ min et (s.2 + (s.1 + q - rt)) then (2, (rt, min et (s.2 + (s.1 + q - rt)) - m)) else (3, (rt, min et (s.2 + (s.1 + q - rt)))))
  else if m ≤ s.1 + q then (1, (s.1 + q - m, s.2)) else if m ≤ s.2 then (2, (s.1 + q, s.2 - m)) else (3, (s.1 + q, s.2))
def lastT (l : List Itm) : Nat → Int
  | 0 => 0
  | k + 1 => (l.getD k .zero).t
def oneAt (B : Bkt) (E : Int) (l : List Itm) (k : Nat) (s : Int × Int) : Int × (Int × Int) :=
  oneStep ((B.r : Int) * (B.t : Int)) (E * (B.t : Int)) (((l.getD k .zero).t - lastT l k) * (B.b : Int)) ((l.getD k .zero).len * (B.t : Int)) s
def oneSt (B : Bkt) (E : Int) (l : List Itm) : Nat → Int × Int
  | 0 => ((B.r : Int) * (B.t : Int), E * (B.t : Int))
  | k + 1 => (oneAt B E l k (oneSt B E l k)).2
def oneCol (B : Bkt) (E : Int) (l : List Itm) (k : Nat) : Int := (oneAt B E l k (oneSt B E l k)).1
/-- What the way through one round knows. -/
def OneIs (rt et q m s1 s2 c f1 f2 : Int) : Prop :=
  (rt < s1 + q ∧ ((m ≤ rt ∧ c = 1 ∧ f1 = rt - m ∧ f2 = min et (s2 + (s1 + q - rt))) ∨ (rt < m ∧ m ≤ min et (s2 + (s1 + q - rt)) ∧ c = 2 ∧ f1 = rt ∧ f2 = min et (s2 + (s1 + q - rt)) - m) ∨ (rt < m ∧ min et (s2 + (s1 + q - rt)) < m ∧ c = 3 ∧ f1 = rt ∧ f2 = min et (s2 + (s1 + q - rt))))) ∨
  (s1 + q ≤ rt ∧ ((m ≤ s1 + q ∧ c = 1 ∧ f1 = s1 + q - m ∧ f2 = s2) ∨ (s1 + q < m ∧ m ≤ s2 ∧ c = 2 ∧ f1 = s1 + q ∧ f2 = s2 - m) ∨ (s1 + q < m ∧ s2 < m ∧ c = 3 ∧ f1 = s1 + q ∧ f2 = s2)))
/-- The state is within both rooms. -/
structure OneIn (B : Bkt) (E : Int) (s : Int × Int) : Prop where
  a0 : 0 ≤ s.1
  a1 : s.1 ≤ (B.r : Int) * (B.t : Int)
  b0 : 0 ≤ s.2
  b1 : s.2 ≤ E * (B.t : Int)
theorem oneStep_in {rt et q m : Int} {s : Int × Int} (h0 : 0 ≤ rt) (hq : 0 ≤ q) (hm : 0 ≤ m) (h : (0 ≤ s.1 ∧ s.1 ≤ rt) ∧ 0 ≤ s.2 ∧ s.2 ≤ et) : (0 ≤ (oneStep rt et q m s).2.1 ∧ (oneStep rt et q m s).2.1 ≤ rt) ∧ 0 ≤ (oneStep rt et q m s).2.2 ∧ (oneStep rt et q m s).2.2 ≤ et := by
  unfold oneStep
  split
  · split
    · simp only; omega
    · split <;> (simp only; omega)
  · split
    · simp only; omega
    · split <;> (simp only; omega)
/-- Packets that may be: each one's numbers, and their order. -/
structure ItIn (l : List Itm) (k : Nat) : Prop where
  t0 : 0 ≤ (l.getD k .zero).t
  t1 : (l.getD k .zero).t ≤ 1000000000
  n0 : 1 ≤ (l.getD k .zero).len
  n1 : (l.getD k .zero).len ≤ 10000
  o0 : 0 ≤ lastT l k
  o1 : lastT l k ≤ (l.getD k .zero).t
theorem itIn {l : List Itm} {k : Nat} (h : ∀ j, j < l.length → listAt l j = 0) (hk : k < l.length) : ItIn l k := by
  have hz : ∀ j, j < l.length → (l.getD j .zero).ok := fun j hj => by
    have := h j hj
    unfold listAt at this
    by_cases h1 : ckItem (l.getD j .zero) = 0
    · exact ckItem_zero h1
    · rw [if_pos h1] at this; exact absurd this (by decide)
  have h1 := hz k hk
  refine ⟨h1.1.1, h1.1.2, h1.2.1.1, h1.2.1.2, ?_, ?_⟩
  · cases k with
    | zero => exact Int.le_refl _
    | succ k => exact (hz k (by omega)).1.1
  · cases k with
    | zero => exact h1.1.1
    | succ k =>
      have h2 := h (k + 1) hk
      unfold listAt at h2
      rw [if_neg (by rw [ckItem_ok h1]; decide)] at h2
      show (l.getD k .zero).t ≤ _
      by_cases h3 : (l.getD (k + 1) .zero).t < (l.getD k .zero).t
      · rw [if_pos ⟨by omega, by simpa using h3⟩] at h2; exact absurd h2 (by decide)
      · omega
theorem one_q (B : Bkt) {l : List Itm} {k : Nat} (h : ItIn l k) : 0 ≤ ((l.getD k .zero).t - lastT l k) * (B.b : Int) ∧ ((l.getD k .zero).t - lastT l k) * (B.b : Int) ≤ 1000000000000000 := by
  have h1 := B.hb
  have h2 := h.o0
  have h3 := h.o1
  have h4 := h.t1
  exact mul_in (m := 1000000000) (n := 1000000) (by omega) (by omega)
theorem one_m (B : Bkt) {l : List Itm} {k : Nat} (h : ItIn l k) : 0 ≤ (l.getD k .zero).len * (B.t : Int) ∧ (l.getD k .zero).len * (B.t : Int) ≤ 1000000000000 := by
  have h1 := h.n0
  have h2 := h.n1
  exact B.need (by omega)
theorem oneSt_in (B : Bkt) {E : Int} (hE : 0 ≤ E ∧ E ≤ 1000000) {l : List Itm} (h : ∀ j, j < l.length → listAt l j = 0) (k : Nat) (hk : k ≤ l.length) : OneIn B E (oneSt B E l k) := by
  induction k with
  | zero => exact ⟨B.room.1, Int.le_refl _, (B.need hE).1, Int.le_refl _⟩
  | succ k ih =>
    have h1 := ih (by omega)
    have h2 := itIn h (k := k) (by omega)
    have h3 := oneStep_in B.room.1 (one_q B h2).1 (one_m B h2).1 (s := oneSt B E l k) (et := E * (B.t : Int)) ⟨⟨h1.a0, h1.a1⟩, h1.b0, h1.b1⟩
    exact ⟨h3.1.1, h3.1.2, h3.2.1, h3.2.2⟩
theorem oneStep_is (rt et q m s1 s2 : Int) : OneIs rt et q m s1 s2 (oneStep rt et q m (s1, s2)).1 (oneStep rt et q m (s1, s2)).2.1 (oneStep rt et q m (s1, s2)).2.2 := by
  unfold oneStep OneIs
  simp only
  by_cases h0 : rt < s1 + q
  · by_cases h1 : m ≤ rt
    · rw [if_pos h0, if_pos h1]; exact .inl ⟨h0, .inl ⟨h1, rfl, rfl, rfl⟩⟩
    · by_cases h2 : m ≤ min et (s2 + (s1 + q - rt))
      · rw [if_pos h0, if_neg h1, if_pos h2]; exact .inl ⟨h0, .inr (.inl ⟨by omega, h2, rfl, rfl, rfl⟩)⟩
      · rw [if_pos h0, if_neg h1, if_neg h2]; exact .inl ⟨h0, .inr (.inr ⟨by omega, by omega, rfl, rfl, rfl⟩)⟩
  · by_cases h1 : m ≤ s1 + q
    · rw [if_neg h0, if_pos h1]; exact .inr ⟨by omega, .inl ⟨h1, rfl, rfl, rfl⟩⟩
    · by_cases h2 : m ≤ s2
      · rw [if_neg h0, if_neg h1, if_pos h2]; exact .inr ⟨by omega, .inr (.inl ⟨by omega, h2, rfl, rfl, rfl⟩)⟩
      · rw [if_neg h0, if_neg h1, if_neg h2]; exact .inr ⟨by omega, .inr (.inr ⟨by omega, by omega, rfl, rfl, rfl⟩)⟩
theorem one_is (B : Bkt) (E : Int) (l : List Itm) (k : Nat) : OneIs ((B.r : Int) * (B.t : Int)) (E * (B.t : Int)) (((l.getD k .zero).t - lastT l k) * (B.b : Int)) ((l.getD k .zero).len * (B.t : Int)) (oneSt B E l k).1 (oneSt B E l k).2 (oneCol B E l k) (oneSt B E l (k + 1)).1 (oneSt B E l (k + 1)).2 := oneStep_is _ _ _ _ _ _

/-- When the next one should come, times b. -/
def cellStep (rt x m sh : Int) : Bool × Int := if max sh x + m - x ≤ rt then (true, max sh x + m) else (false, sh)
def cellAt (B : Bkt) (l : List Itm) (k : Nat) (sh : Int) : Bool × Int := cellStep ((B.r : Int) * (B.t : Int)) ((l.getD k .zero).t * (B.b : Int)) ((l.getD k .zero).len * (B.t : Int)) sh
def cellSt (B : Bkt) (l : List Itm) : Nat → Int
  | 0 => 0
  | k + 1 => (cellAt B l k (cellSt B l k)).2
def cellOk (B : Bkt) (l : List Itm) (k : Nat) : Bool := (cellAt B l k (cellSt B l k)).1
theorem cell_x (B : Bkt) {l : List Itm} {k : Nat} (h : ItIn l k) : 0 ≤ (l.getD k .zero).t * (B.b : Int) ∧ (l.getD k .zero).t * (B.b : Int) ≤ 1000000000000000 := by
  have h1 := B.hb
  have h2 := h.t0
  have h4 := h.t1
  exact mul_in (m := 1000000000) (n := 1000000) (by omega) (by omega)
theorem cellSt_in (B : Bkt) {l : List Itm} (h : ∀ j, j < l.length → listAt l j = 0) (k : Nat) (hk : k ≤ l.length) : 0 ≤ cellSt B l k ∧ cellSt B l k ≤ 1001000000000000 := by
  induction k with
  | zero => exact ⟨Int.le_refl _, by unfold cellSt; omega⟩
  | succ k ih =>
    have h1 := ih (by omega)
    have h2 := itIn h (k := k) (by omega)
    have h3 := cell_x B h2
    have h4 := one_m B h2
    have h5 := B.room
    show 0 ≤ (cellAt B l k (cellSt B l k)).2 ∧ (cellAt B l k (cellSt B l k)).2 ≤ _
    unfold cellAt cellStep
    split
    · simp only; omega
    · exact h1
theorem cell_yes {B : Bkt} {l : List Itm} {k : Nat} (h : max (cellSt B l k) ((l.getD k .zero).t * (B.b : Int)) + (l.getD k .zero).len * (B.t : Int) - (l.getD k .zero).t * (B.b : Int) ≤ (B.r : Int) * (B.t : Int)) :
    cellOk B l k = true ∧ cellSt B l (k + 1) = max (cellSt B l k) ((l.getD k .zero).t * (B.b : Int)) + (l.getD k .zero).len * (B.t : Int) := by
  have : cellAt B l k (cellSt B l k) = (true, max (cellSt B l k) ((l.getD k .zero).t * (B.b : Int)) + (l.getD k .zero).len * (B.t : Int)) := by unfold cellAt cellStep; rw [if_pos h]
  exact ⟨by unfold cellOk; rw [this], by show (cellAt B l k (cellSt B l k)).2 = _; rw [this]⟩
theorem cell_no {B : Bkt} {l : List Itm} {k : Nat} (h : (B.r : Int) * (B.t : Int) < max (cellSt B l k) ((l.getD k .zero).t * (B.b : Int)) + (l.getD k .zero).len * (B.t : Int) - (l.getD k .zero).t * (B.b : Int)) :
    cellOk B l k = false ∧ cellSt B l (k + 1) = cellSt B l k := by
  have : cellAt B l k (cellSt B l k) = (false, cellSt B l k) := by unfold cellAt cellStep; rw [if_neg (by omega)]
  exact ⟨by unfold cellOk; rw [this], by show (cellAt B l k (cellSt B l k)).2 = _; rw [this]⟩

/-- A small denominator; small numerators. -/
structure Den (T : Nat) : Prop where
  h0 : 1 ≤ T
  h1 : T ≤ 1000000
theorem Den.sq {T : Nat} (h : Den T) : T * T < 18446744073709551616 := by
  have : T * T ≤ 1000000 * 1000000 := Nat.mul_le_mul h.h1 h.h1
  omega
def Sm (x : Int) : Prop := -9000000000000000000 ≤ x ∧ x ≤ 9000000000000000000
theorem sum_ok {x y : Int} {T : Nat} (hT : Den T) (hx : Sm x) (hy : Sm y) : SumOk x y T T := by
  have h1 := hT.h1
  have h2 := hx.1
  have h3 := hx.2
  have h4 := hy.1
  have h5 := hy.2
  exact ⟨ltb5 (by omega), ltb5 (by omega), by omega, by omega, hT.sq⟩
theorem int_dT (n : Int) {T : Nat} (hT : Den T) (w : World) (hn : -9223372036854775808 ≤ n ∧ n ≤ 9223372036854775807) : Calls Tryz.prog 28 #[.int .i64 n] w (NewR (n * (T : Int)) T w) :=
  (refInt_any n w hn).mono fun e w' h => h.congr (by have := hT.h0; omega) (by simp)
theorem intR_dT {n : Int} {T g : Nat} {w : World} (hT : Den T) (h : RatV w g n 1) : RatV w g (n * (T : Int)) T := h.congr (by have := hT.h0; omega) (by simp)
theorem add_dT {x y : Int} {T g1 g2 : Nat} {w : World} (hT : Den T) (hx : Sm x) (hy : Sm y) (h1 : RatV w g1 x T) (h2 : RatV w g2 y T) : Calls Tryz.prog 41 #[.pointer (some ⟨g1, 0, none⟩), .pointer (some ⟨g2, 0, none⟩)] w (NewR (x + y) T w) :=
  (refadd_any g1 g2 _ _ _ _ w h1 h2 (sum_ok hT hx hy)).mono fun e w' h => h.congr (by have := hT.h0; omega) (by rw [Int.natCast_mul, ← Int.add_mul, Int.mul_assoc])
theorem sub_dT {x y : Int} {T g1 g2 : Nat} {w : World} (hT : Den T) (hx : Sm x) (hy : Sm y) (h1 : RatV w g1 x T) (h2 : RatV w g2 y T) : Calls Tryz.prog 32 #[.pointer (some ⟨g1, 0, none⟩), .pointer (some ⟨g2, 0, none⟩)] w (NewR (x - y) T w) :=
  (refsub_any g1 g2 _ _ _ _ w h1 h2 (sum_ok hT hx hy)).mono fun e w' h => h.congr (by have := hT.h0; omega) (by rw [Int.natCast_mul, ← Int.sub_mul, Int.mul_assoc])
theorem cmp_dT {x y : Int} {T g1 g2 : Nat} {w : World} (hT : Den T) (hx : Sm x) (hy : Sm y) (h1 : RatV w g1 x T) (h2 : RatV w g2 y T) : Calls Tryz.prog 31 #[.pointer (some ⟨g1, 0, none⟩), .pointer (some ⟨g2, 0, none⟩)] w fun e w' => e = .returned (.int .i64 (sg x y)) ∧ Gr w w' :=
  (ratcmp_any g1 g2 _ _ _ _ w h1 h2 (sum_ok hT hx hy)).mono fun e w' ⟨h, k⟩ => ⟨by rw [h, sg_mul (by have := hT.h0; omega)], k⟩
theorem OldR.congr {x y : Int} {T S : Nat} {w : World} {e : Ending} {w' : World} (h : OldR x T w e w') (hS : 0 < S) (he : x * (S : Int) = y * (T : Int)) : OldR y S w e w' := by
  obtain ⟨p, h1, h2, h3⟩ := h
  exact ⟨p, h1, h2.congr hS he, h3⟩
theorem lesser_dT {x y : Int} {T g1 g2 : Nat} {w : World} (hT : Den T) (hx : Sm x) (hy : Sm y) (h1 : RatV w g1 x T) (h2 : RatV w g2 y T) : Calls Tryz.prog 40 #[.pointer (some ⟨g1, 0, none⟩), .pointer (some ⟨g2, 0, none⟩)] w (OldR (min x y) T w) :=
  (lesser_any g1 g2 _ _ _ _ w h1 h2 (sum_ok hT hx hy)).mono fun e w' h => h.congr (by have := hT.h0; omega) (by
    have : min (x * (T : Int)) (y * (T : Int)) = min x y * (T : Int) := by
      rcases Int.le_total x y with k | k
      · have := Int.mul_le_mul_of_nonneg_right k (Int.natCast_nonneg T); rw [Int.min_eq_left k, Int.min_eq_left this]
      · have := Int.mul_le_mul_of_nonneg_right k (Int.natCast_nonneg T); rw [Int.min_eq_right k, Int.min_eq_right this]
    rw [this, Int.natCast_mul, Int.mul_assoc])
theorem mul_dT {n y : Int} {T g1 g2 : Nat} {w : World} (hT : Den T) (hn : -1000000000000000000 ≤ n ∧ n ≤ 1000000000000000000) (hy : Sm y) (hp : Sm (n * y)) (h1 : RatV w g1 n 1) (h2 : RatV w g2 y T) : Calls Tryz.prog 42 #[.pointer (some ⟨g1, 0, none⟩), .pointer (some ⟨g2, 0, none⟩)] w (NewR (n * y) T w) := by
  have a1 := hy.1
  have a2 := hy.2
  have a3 := hp.1
  have a4 := hp.2
  have a5 := hT.h1
  have := refmul_any g1 g2 _ _ _ _ w h1 h2 ⟨by omega, by omega, by omega, by omega, by rw [← Int.natAbs_mul]; omega, by omega⟩
  rwa [Nat.one_mul] at this
end Go.Proofs.YtogmjjaoflaogaaGreatDoor

/-
  The document's cells of a plan, one behind the other; how soon a cell is (millraceref.key).
-/
import Derived.Test.YtfdmmfjheiiiiaaDoorSmI
namespace Go.Proofs.YtfdmmfjheiiiiaaDoor
open Go.RowKit Go.Extern.Stop Go.Stop Go.Extern

namespace PlanP
variable (P : PlanP)
open Classical in
/-- At which tick the k-th cell of flow i comes. -/
noncomputable def atK (i k : Nat) : Nat := if h : k < P.tot i then Classical.choose (P.comes_ex i h) else 0
theorem atK_comes {i k : Nat} (h : k < P.tot i) : P.comesAt i k (P.atK i k) := by
  unfold atK
  rw [dif_pos h]
  exact Classical.choose_spec (P.comes_ex i h)
theorem atK_eq {i k t : Nat} (h : k < P.tot i) (ht : P.comesAt i k t) : P.atK i k = t := by
  have h1 := P.atK_comes h
  have a := (P.comes_iff h1 (u := t)).2 ht.2
  have b := (P.comes_iff ht (u := P.atK i k)).2 h1.2
  omega
/-- The first m cells of flow i. -/
noncomputable def cels (i m : Nat) : List Cel := (List.range m).map fun k => ⟨i, P.atK i k, P.D i k⟩
theorem cels_len (i m : Nat) : (P.cels i m).length = m := by simp [cels]
theorem cels_succ (i m : Nat) : P.cels i (m + 1) = P.cels i m ++ [⟨i, P.atK i m, P.D i m⟩] := by simp [cels, List.range_succ]
/-- All cells of the first i flows. -/
noncomputable def LL : Nat → List Cel
  | 0 => []
  | i + 1 => LL i ++ P.cels i (P.tot i)
theorem LL_len : ∀ i, (P.LL i).length = P.off i
  | 0 => rfl
  | i + 1 => by rw [LL, List.length_append, LL_len i, cels_len, off]
theorem LL_get : ∀ {i j k : Nat}, j < i → k < P.tot j → (P.LL i).getD (P.off j + k) .zero = ⟨j, P.atK j k, P.D j k⟩
  | 0, j, k, h, _ => absurd h (by omega)
  | i + 1, j, k, h, hk => by
    rw [LL]
    rcases Nat.lt_or_ge j i with h1 | h1
    · have h2 := P.off_mono (show j + 1 ≤ i by omega)
      rw [off] at h2
      have h3 : P.off j + k < (P.LL i).length := by rw [LL_len]; omega
      have := LL_get h1 hk
      simp only [List.getD_eq_getElem?_getD, List.getElem?_append_left h3] at this ⊢
      exact this
    · obtain rfl : j = i := by omega
      have h3 : (P.LL j).length ≤ P.off j + k := by rw [LL_len]; omega
      simp only [List.getD_eq_getElem?_getD, List.getElem?_append_right h3, LL_len, Nat.add_sub_cancel_left]
      simp [cels, hk]
theorem has_LL : P.Has (P.LL P.n) where
  len := P.LL_len P.n
  fl := fun i k hi hk => by rw [P.LL_get hi hk]
  at_ := fun i k hi hk => by rw [P.LL_get hi hk]; exact P.atK_comes hk
  due := fun i k hi hk => by rw [P.LL_get hi hk]
end PlanP
section
variable {L : List Cel} {T t q : Nat} {thr : Nat → Int}
theorem rpick_no (h : ¬ firstC L thr t q) : rpick L T thr t (q + 1) = rpick L T thr t q := by rw [rpick, if_neg (fun h2 => h h2.1)]
theorem rpick_take (h : firstC L thr t q) (h2 : rpick L T thr t q < 0 ∨ soon T (L.getD q .zero).due < soon T (L.getD (rpick L T thr t q).toNat .zero).due) : rpick L T thr t (q + 1) = (q : Int) := by rw [rpick, if_pos ⟨h, h2⟩]
theorem rpick_keep (h : ¬ rpick L T thr t q < 0) (h2 : ¬ soon T (L.getD q .zero).due < soon T (L.getD (rpick L T thr t q).toNat .zero).due) : rpick L T thr t (q + 1) = rpick L T thr t q := by rw [rpick, if_neg (fun h3 => h3.2.elim h h2)]
end
/-- f tells whether A. -/
def FT (f : Bool) (A : Prop) : Prop := f = true ↔ A
theorem FT.mk {f : Bool} {A : Prop} (h1 : f = true → A) (h2 : A → f = true) : FT f A := ⟨h1, h2⟩
theorem FT.yes {A : Prop} (h : FT true A) : A := h.1 rfl
theorem FT.no {A : Prop} (h : FT false A) : ¬ A := fun k => by cases h.2 k
theorem FT.true {A : Prop} (h : A) : FT true A := ⟨fun _ => h, fun _ => rfl⟩
theorem FT.false {A : Prop} (h : ¬ A) : FT false A := ⟨fun k => by (cases k), fun k => absurd k h⟩
/-- The best one's place. -/
def PV (cp : Nat → Nat) (b : Int) : Option Addr := if b < 0 then none else some ⟨cp b.toNat, 0, none⟩
theorem PV_at (cp : Nat → Nat) (q : Nat) : PV cp (q : Int) = some ⟨cp q, 0, none⟩ := by unfold PV; rw [if_neg (by omega), Int.toNat_natCast]
theorem PV_none {cp : Nat → Nat} {b : Int} (h : b < 0) : PV cp b = none := if_pos h
theorem PV_some {cp : Nat → Nat} {b : Int} (h : ¬ b < 0) : PV cp b = some ⟨cp b.toNat, 0, none⟩ := if_neg h
/-- The search from behind tells the first one, too. -/
def DownTo (f : Nat → Int) (k : Int) (T u : Nat) (d : Int) : Prop :=
  (d = -1 ∧ ∀ v, u ≤ v → v ≤ T → f v < k) ∨ ∃ e : Nat, d = (e : Int) ∧ u ≤ e ∧ e ≤ T ∧ k ≤ f e ∧ ∀ v, u ≤ v → v < e → f v < k
theorem DownTo.start (f : Nat → Int) (k : Int) (T : Nat) : DownTo f k T (T + 1) (-1) := .inl ⟨rfl, fun v h1 h2 => absurd h1 (by omega)⟩
theorem DownTo.yes {f : Nat → Int} {k : Int} {T u : Nat} (hu : u ≤ T) (hk : k ≤ f u) : DownTo f k T u (u : Int) := .inr ⟨u, rfl, Nat.le_refl _, hu, hk, fun v h1 h2 => absurd h1 (by omega)⟩
theorem DownTo.no {f : Nat → Int} {k : Int} {T u : Nat} {d : Int} (h : DownTo f k T (u + 1) d) (hk : f u < k) : DownTo f k T u d := by
  have key : ∀ v, u ≤ v → v ≠ u → u + 1 ≤ v := fun v h1 h2 => by omega
  rcases h with ⟨h1, h2⟩ | ⟨e, h1, h2, h3, h4, h5⟩
  · refine .inl ⟨h1, fun v a b => ?_⟩
    by_cases e : v = u
    · rw [e]; exact hk
    · exact h2 v (key v a e) b
  · refine .inr ⟨e, h1, by omega, h3, h4, fun v a b => ?_⟩
    by_cases e2 : v = u
    · rw [e2]; exact hk
    · exact h5 v (key v a e2) b
theorem DownTo.done {f : Nat → Int} {k : Int} {T : Nat} {d : Int} (h : DownTo f k T 0 d) : d = firstUp f k (T + 1) := by
  rcases h with ⟨h1, h2⟩ | ⟨e, h1, h2, h3, h4, h5⟩
  · rw [h1, firstUp_none fun u hu => h2 u (Nat.zero_le _) (by omega)]
  · rw [h1, firstUp_at (show e < T + 1 by omega) h4 fun v hv => h5 v (Nat.zero_le _) hv]
set_option maxRecDepth 100000 in
set_option maxHeartbeats 4000000 in
theorem key_any (b T : Nat) (c : Cel) (h : Int) (w : World) (hc : CelAt w b c h) (hT : T ≤ 1000) :
    Calls Tryd.prog 14 #[.pointer (some ⟨b, 0, none⟩), .int .i64 (T : Int)] w fun e w' => e = .returned (.int .i64 (soon T c.due)) ∧ w = w' := by
  have c2 := hc.c2
  have t0 : (0 : Int) ≤ (T : Int) := by omega
  have t1 : (T : Int) ≤ 1000 := by omega
  obtain ⟨d, hd⟩ : ∃ d, d = c.due := ⟨_, rfl⟩
  rw [← hd] at c2 ⊢
  have HS : Hid (soon T d = if d < 0 then (T : Int) + 1 else d) := Lib.hid rfl
  clear hc hd hT
  by_cases h0 : d < 0
  · go_enter Tryd.func14, Tryd.ntmps14
    go_wp2
    go_ret
    exact ⟨by rw [HS.out, if_pos h0]; rfl, rfl⟩
  · go_enter Tryd.func14, Tryd.ntmps14
    go_wp2
    go_ret
    exact ⟨by rw [HS.out, if_neg (by omega)]; rfl, rfl⟩
end Go.Proofs.YtfdmmfjheiiiiaaDoor

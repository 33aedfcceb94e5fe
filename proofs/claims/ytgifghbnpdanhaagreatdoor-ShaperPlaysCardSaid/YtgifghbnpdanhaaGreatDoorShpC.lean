/-
  A queue that lets no more go than a bucket has: how much it holds.
-/
import Derived.Test.YtgifghbnpdanhaaGreatDoorShpB
namespace Go.Proofs.YtgifghbnpdanhaaGreatDoor
open Go.RowKit

section
variable {α : Type} {U : Mach α} {N0 : Nat} {K : BKind} {N : NKind} {E : TypeId} {S : Side U N0 (Nat → Prop)} {q : Value} {B : Bkt} {mu : α → Nat} {p tp : Nat} {w w' : World} {lv nv : Value} {F F' : Nat → Prop} {s : Shp α} {n n' : Nat} {now : Int}
theorem shLook_some {x : Hel} (h : s.held = some x) : shLook U s now = s := by unfold shLook; rw [h]
theorem shLook_none (h : s.held = none) : shLook U s now = ⟨(U.take s.a now).1, s.t, if (U.take s.a now).2.2.2 = true then some (U.take s.a now).2.1 else none, s.lost ++ (U.take s.a now).2.2.1⟩ := by unfold shLook; rw [h]
theorem shLook_mass (hU : More S mu) (hI : S.I w F s.a n) (hn : Now now) : muS mu (shLook U s now) ≤ muS mu s := by
  cases h : s.held with
  | some x => rw [shLook_some h]; exact Nat.le_refl _
  | none =>
    have h1 := hU.take hI hn
    rw [shLook_none h]
    unfold muS
    rw [h]
    by_cases e : (U.take s.a now).2.2.2 = true
    · rw [if_pos e] at h1 ⊢
      simp only [Option.toList, List.length_append, List.length_cons, List.length_nil] at h1 ⊢
      omega
    · rw [if_neg e] at h1 ⊢
      simp only [Option.toList, List.length_append, List.length_nil] at h1 ⊢
      omega
theorem shLook_lens (hU : More S mu) (hI : S.I w F s.a n) (hn : Now now) (hl : ∀ x, s.held = some x → 0 ≤ x.len ∧ x.len ≤ 10000) : ∀ x, (shLook U s now).held = some x → 0 ≤ x.len ∧ x.len ≤ 10000 := by
  cases h : s.held with
  | some x => rw [shLook_some h]; exact hl
  | none =>
    rw [shLook_none h]
    intro x hx
    by_cases e : (U.take s.a now).2.2.2 = true
    · simp only [if_pos e] at hx
      obtain rfl := Option.some.inj hx
      exact hU.took hI hn e
    · simp only [if_neg e] at hx
      cases hx
theorem shGo_none (h : s.held = none) : shGo B s now = (⟨s.a, s.t, none, []⟩, .zero, s.lost, false) := by unfold shGo; rw [h]
theorem shGo_yes {x : Hel} (h : s.held = some x) (e : (B.take s.t now x.len).1 = true) : shGo B s now = (⟨s.a, (B.take s.t now x.len).2, none, []⟩, x, s.lost, true) := by unfold shGo; rw [h]; simp only; rw [if_pos e]
theorem shGo_no {x : Hel} (h : s.held = some x) (e : ¬ (B.take s.t now x.len).1 = true) : shGo B s now = (⟨s.a, (B.take s.t now x.len).2, some x, []⟩, .zero, s.lost, false) := by unfold shGo; rw [h]; simp only; rw [if_neg e]
theorem shAsk_none (h : s.held = none) : shAsk U B s now = (⟨(U.when_ s.a now).1, s.t, none, s.lost⟩, (U.when_ s.a now).2) := by unfold shAsk; rw [h]
theorem shAsk_some {x : Hel} (h : s.held = some x) : shAsk U B s now = (⟨s.a, (B.when s.t now x.len).2, some x, s.lost⟩, (B.when s.t now x.len).1) := by unfold shAsk; rw [h]
theorem shGo_mass (s : Shp α) (now : Int) : muS mu (shGo B s now).1 + (shGo B s now).2.2.1.length + (if (shGo B s now).2.2.2 = true then 1 else 0) ≤ muS mu s := by
  cases h : s.held with
  | none =>
    rw [shGo_none h]
    unfold muS
    simp [h]
  | some x =>
    by_cases e : (B.take s.t now x.len).1 = true
    · rw [shGo_yes h e]
      unfold muS
      simp [h]
      omega
    · rw [shGo_no h e]
      unfold muS
      simp [h]
theorem shGo_took (s : Shp α) (now : Int) (hl : ∀ x, s.held = some x → 0 ≤ x.len ∧ x.len ≤ 10000) (ho : (shGo B s now).2.2.2 = true) : 0 ≤ (shGo B s now).2.1.len ∧ (shGo B s now).2.1.len ≤ 10000 := by
  cases h : s.held with
  | none => rw [shGo_none h] at ho; cases ho
  | some x =>
    by_cases e : (B.take s.t now x.len).1 = true
    · rw [shGo_yes h e]; exact hl x h
    · rw [shGo_no h e] at ho; cases ho
theorem shAsk_mass (hU : More S mu) (hI : S.I w F s.a n) (hn : Now now) : muS mu (shAsk U B s now).1 ≤ muS mu s := by
  unfold shAsk
  cases h : s.held with
  | none =>
    have h1 := hU.when_ hI hn
    unfold muS
    simp only [h, Option.toList, List.length_nil]
    omega
  | some x =>
    unfold muS
    simp only [h]
    omega
theorem calls_some {P : Program} {f : FuncId} {args : Array Value} {w : World} {R : Ending → World → Prop} (h : Calls P f args w R) : ∃ e w', R e w' := by
  obtain ⟨e, w', fr, h1, _⟩ := h []
  exact ⟨e, w', h1⟩
theorem Acts.took_I (A : Acts S E q) (hI : S.I w F s.a n) (hn : Now now) : ∃ w' F', S.I w' F' (U.take s.a now).1 n := by
  obtain ⟨f, r, _, hc⟩ := A.take
  obtain ⟨e, w', v, b', _, _, hm⟩ := calls_some (hc w F s.a n now hI hn)
  exact ⟨w', b', hm.inv⟩
theorem Acts.look_I (A : Acts S E q) (hI : S.I w F s.a n) (hn : Now now) : ∃ w' F', S.I w' F' (shLook U s now).a n := by
  cases h : s.held with
  | some x => rw [shLook_some h]; exact ⟨w, F, hI⟩
  | none => rw [shLook_none h]; exact A.took_I hI hn
theorem shSide_more {hq : ∃ t v, q = .iface t v} {hF : ∀ b g, S.F b g ↔ b g} {E' : TypeId} (A : Acts S E' q) (hU : More S mu) : More (shSide K N E S q B mu p tp hq hF) (muS mu) where
  up {w G s n} h hn := by
    obtain ⟨lv, nv, F, a, h2⟩ := h
    exact ⟨lv, nv, F, ⟨a.c0, a.c1, a.c2, a.c3, a.f2, a.f3, a.nx, a.row, a.st, a.t0, a.t2, a.ok, hU.up a.sub hn, a.ap, a.pF, a.tF, a.lo, a.no, a.n0, ⟨Nat.le_succ_of_le a.mass.1, hn⟩, a.lens⟩, h2⟩
  few {w G s n} h := by
    obtain ⟨lv, nv, F, a, h2⟩ := h
    have h3 := (hU.few a.sub).1
    refine ⟨?_, a.mass.1⟩
    show (s.held.toList ++ U.all s.a).length ≤ _
    rw [List.length_append]
    unfold muS
    omega
  put {w G s n t x} h g := by
    obtain ⟨lv, nv, F, a, h2⟩ := h
    show muS mu (if (B.r : Int) < x.len then (s, [x]) else (⟨(U.put s.a t x).1, s.t, s.held, s.lost⟩, (U.put s.a t x).2)).1 + (if (B.r : Int) < x.len then (s, [x]) else (⟨(U.put s.a t x).1, s.t, s.held, s.lost⟩, (U.put s.a t x).2)).2.length ≤ muS mu s + 1
    by_cases e : (B.r : Int) < x.len
    · rw [if_pos e]; simp
    · rw [if_neg e]
      have h3 := hU.put a.sub g
      unfold muS
      simp only
      omega
  take {w G s n t} h ht := by
    obtain ⟨lv, nv, F, a, h2⟩ := h
    have h3 := shLook_mass hU a.sub ht
    have h4 := shGo_mass (mu := mu) (B := B) (shLook U s t) t
    exact Nat.le_trans h4 h3
  took {w G s n t} h ht ho := by
    obtain ⟨lv, nv, F, a, h2⟩ := h
    exact shGo_took (B := B) (shLook U s t) t (shLook_lens hU a.sub ht a.lens) ho
  when_ {w G s n t} h ht := by
    obtain ⟨lv, nv, F, a, h2⟩ := h
    have h3 := shLook_mass hU a.sub ht
    obtain ⟨w', F', h4⟩ := A.look_I a.sub ht
    exact Nat.le_trans (shAsk_mass hU h4 ht) h3
theorem shSide_few {hq : ∃ t v, q = .iface t v} {hF : ∀ b g, S.F b g ↔ b g} {E' : TypeId} (A : Acts S E' q) (hU : More S mu) {G : Nat → Prop} (h : (shSide K N E S q B mu p tp hq hF).I w G s n) : ((shaper U B).all s).length ≤ 1000 ∧ Lens ((shaper U B).all s) := by
  have h1 := (shSide_more A hU).few h
  obtain ⟨lv, nv, F, a, h2⟩ := h
  have h3 := a.mass.2
  refine ⟨by omega, fun x hx => ?_⟩
  rcases List.mem_append.1 (show x ∈ s.held.toList ++ U.all s.a from hx) with h4 | h4
  · have h5 := a.lens x (by cases e : s.held with | none => rw [e] at h4; cases h4 | some y => rw [e] at h4; simp at h4; rw [h4])
    omega
  · exact (A.few a.sub).2 x h4
theorem shSide_fewPut {hq : ∃ t v, q = .iface t v} {hF : ∀ b g, S.F b g ↔ b g} {E' : TypeId} (A : Acts S E' q) (hU : More S mu) {G : Nat → Prop} {x : Hel} (h : (shSide K N E S q B mu p tp hq hF).I w G s n) (g : GoodPut now x n) : ((shaper U B).put s now x).2.length ≤ 1000 := by
  have h1 := (shSide_more A hU).put h g
  have h2 := (shSide_more A hU).few h
  have h3 := g.few
  omega
theorem shSide_fewTake {hq : ∃ t v, q = .iface t v} {hF : ∀ b g, S.F b g ↔ b g} {E' : TypeId} (A : Acts S E' q) (hU : More S mu) {G : Nat → Prop} (h : (shSide K N E S q B mu p tp hq hF).I w G s n) (hn : Now now) : ((shaper U B).take s now).2.2.1.length ≤ 1000 := by
  have h1 := (shSide_more A hU).take h hn
  have h2 := (shSide_more A hU).few h
  obtain ⟨lv, nv, F, a, _⟩ := h
  have h3 := a.mass.2
  omega
end
end Go.Proofs.YtgifghbnpdanhaaGreatDoor

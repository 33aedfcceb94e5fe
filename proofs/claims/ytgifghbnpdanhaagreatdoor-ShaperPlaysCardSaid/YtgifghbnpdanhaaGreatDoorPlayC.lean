/-
  millraceref.Bytes; both sides of a play together.
-/
import Derived.Test.YtgifghbnpdanhaaGreatDoorPlayB
import Derived.Test.YtgifghbnpdanhaaGreatDoorTimesB
import Derived.Test.YtgifghbnpdanhaaGreatDoorApp
namespace Go.Proofs.YtgifghbnpdanhaaGreatDoor
open Go.RowKit Go.Extern.Stop Go.Stop Go.Extern

theorem Lens.take {xs : List Hel} (h : Lens xs) (n : Nat) : Lens (xs.take n) := fun x hx => h x (List.mem_of_mem_take hx)
set_option maxRecDepth 100000 in
set_option maxHeartbeats 4000000 in
theorem rbytes_any (v : Value) (xs : List Hel) (w : World) (h : RowH 95 w v xs) (hn : xs.length ≤ 1000) (hb : Lens xs) : Calls Tryz.prog 27 #[v] w fun e w' => e = .returned (.int .i64 (sumLen xs)) ∧ Gr w w' := by
  obtain ⟨a, cap, rfl, _, _, HC⟩ := h.any
  have HN := Lib.hid hn
  have HL := Lib.hid hb
  clear hn hb h
  go_enter Tryz.func27, Tryz.ntmps27
  go_wp2
  go_loopw [3, 8] (fun s3 s8 wr => ∃ (j : Nat), j ≤ xs.length ∧ s8 = .int .i64 (j : Int) ∧ s3 = .int .i64 (sumLen (xs.take j)) ∧ Hid (Gr w wr)) (fun _ i _ => xs.length - (intOf i).toNat)
  case atStart => exact ⟨0, Nat.zero_le _, rfl, rfl, Gr.refl _⟩
  case round =>
    obtain ⟨j, hj, rfl, rfl, HG⟩ := hrel
    by_cases hjl : j < xs.length
    · have j0 : (0 : Int) ≤ (j : Int) := by omega
      have j1 : (j : Int) < (xs.length : Int) := by omega
      obtain ⟨lb, lo, rfl, h4⟩ := HC.out (by omega)
      obtain ⟨c0, c1, c2, c3, c4, c5⟩ := (h4 j hjl).gr HG.out
      clear h4
      have HT := Lib.hid (show sumLen (xs.take (j + 1)) = sumLen (xs.take j) + (xs.getD j .zero).len from by
        rw [List.take_add_one, List.getElem?_eq_getElem hjl, List.getD_eq_getElem?_getD, List.getElem?_eq_getElem hjl]
        exact sumLen_one _ _)
      have HB1 := Lib.hid ((HL.out.take j).sum (by rw [List.length_take]; have := HN.out; omega))
      have HB2 := Lib.hid ((HL.out.take (j + 1)).sum (by rw [List.length_take]; have := HN.out; omega))
      generalize xs.getD j .zero = x at *
      obtain ⟨t, len, flow, band, mark, n⟩ := x
      simp only [] at c0 c1 c2 c3 c4 c5 HT
      obtain ⟨s, hs⟩ : ∃ s, s = sumLen (xs.take j) := ⟨_, rfl⟩
      rw [← hs] at HT HB1 ⊢
      clear hs
      go_wp2
      rw [show wrap64 ((j : Int) + 1) = ((j + 1 : Nat) : Int) from by have := HN.out; unfold wrap64; omega]
      go_roundw
      case measure => simp [intOf]; omega
      case rel =>
        refine ⟨j + 1, by omega, rfl, congrArg (Value.int .i64) ?_, HG.out.alloc _⟩
        have := HT.out
        have := HB2.out
        have := HB1.out
        unfold wrap64
        omega
    · obtain rfl : j = xs.length := by omega
      rw [List.take_length]
      go_wp2
      go_ret
      exact ⟨rfl, HG.out⟩

section
variable {α β γ : Type} {M : Mach α} {N0 : Nat}
/-- Both sides, each at its state, apart from each other. -/
structure Both (S : Side M N0 β) (T : Side M N0 γ) (w : World) (b : β) (c : γ) (a a' : α) (n n' : Nat) : Prop where
  s : S.I w b a n
  t : T.I w c a' n'
  apart : ∀ g, S.F b g → ¬ T.F c g
variable {S : Side M N0 β} {T : Side M N0 γ} {w w' : World} {b b' : β} {c c' : γ} {a a' a2 : α} {n n' n2 : Nat}
theorem Both.gr (h : Both S T w b c a a' n n') (g : Gr w w') : Both S T w' b c a a' n n' := ⟨S.gr h.s g, T.gr h.t g, h.apart⟩
theorem Both.stepT (h : Both S T w b c a a' n n') (k : T.Moved w c w' c' a2 n2) : Both S T w' b c' a a2 n n2 :=
  ⟨S.sav h.s k.sav (.of_sav k.sav fun g hg => T.norat h.t hg) (fun g hg => ⟨T.lo h.t hg, fun e => h.apart g e hg⟩), k.inv, fun g hg e => by
    rcases k.new g e with h1 | h1
    · exact h.apart g hg h1
    · have := S.lt h.s hg; omega⟩
theorem Both.stepS (h : Both S T w b c a a' n n') (k : S.Moved w b w' b' a2 n2) : Both S T w' b' c a2 a' n2 n' :=
  ⟨k.inv, T.sav h.t k.sav (.of_sav k.sav fun g hg => S.norat h.s hg) (fun g hg => ⟨S.lo h.s hg, fun e => h.apart g hg e⟩), fun g hg e => by
    rcases k.new g hg with h1 | h1
    · exact h.apart g h1 e
    · have := T.lt h.t e; omega⟩
end
/-- What is asked behind each step: nothing, or a closure that says yes. -/
def ThenOk {α β γ : Type} {M : Mach α} {N0 : Nat} (S : Side M N0 β) (T : Side M N0 γ) (th : Value) : Prop :=
  th = .nilFunc ∨ ∃ f caps, th = .func (.func f) #[] caps ∧ (∀ w, (callFunc f caps).run Tryz.prog w = .ok (.enter f caps) w) ∧
    ∀ w b c a n, Both S T w b c a a n n → Calls Tryz.prog f caps w fun e w' => e = .returned (.bool true) ∧ Gr w w'
end Go.Proofs.YtgifghbnpdanhaaGreatDoor

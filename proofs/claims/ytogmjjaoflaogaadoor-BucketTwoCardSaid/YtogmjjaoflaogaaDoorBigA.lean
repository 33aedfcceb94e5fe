/-
  millracebig's words: trim, plain, cmp.
-/
import Derived.Test.YtogmjjaoflaogaaDoorBigN
import Derived.BigGuardPart
namespace Go.Proofs.YtogmjjaoflaogaaDoor
open Go.RowKit

/-- v is a slice of n words f. -/
def Wds (w : World) (v : Value) (n : Nat) (f : Nat → Int) : Prop :=
  ∃ a cap, v = .slice a n cap ∧ ((n ≤ cap ∧ n ≤ 1000000 ∧ cap ≤ 9223372036854775807) ∧ (a = none → cap = 0)) ∧ (0 < n → ∃ g, a = some ⟨g, 0, none⟩ ∧ ∀ i, i < n → w.cell? ⟨g, i, none⟩ = some (.int .u32 (f i))) ∧ W32 f n
theorem Wds.gr {w w' : World} {v : Value} {n : Nat} {f : Nat → Int} (h : Wds w v n f) (k : Gr w w') : Wds w' v n f := by
  obtain ⟨a, cap, h1, h2, h3, h4⟩ := h
  refine ⟨a, cap, h1, h2, fun h0 => ?_, h4⟩
  obtain ⟨g, h5, h6⟩ := h3 h0
  exact ⟨g, h5, fun i hi => k.cell (h6 i hi)⟩
theorem Wds.congr {w : World} {v : Value} {n : Nat} {f f' : Nat → Int} (h : Wds w v n f) (k : ∀ i, i < n → f i = f' i) : Wds w v n f' := by
  obtain ⟨a, cap, h1, h2, h3, h4⟩ := h
  refine ⟨a, cap, h1, h2, fun h0 => ?_, fun i hi => by rw [← k i hi]; exact h4 i hi⟩
  obtain ⟨g, h5, h6⟩ := h3 h0
  exact ⟨g, h5, fun i hi => by rw [← k i hi]; exact h6 i hi⟩
theorem Wds.w32 {w : World} {v : Value} {n : Nat} {f : Nat → Int} (h : Wds w v n f) : W32 f n := by
  obtain ⟨_, _, _, _, _, h⟩ := h; exact h
theorem Blk.wds {T : TypeId} {w : World} {g n : Nat} {f : Nat → Int} (h : Blk .u32 T w g n f) (hn : n ≤ 1000000) (hf : W32 f n) : Wds w (.slice (some ⟨g, 0, none⟩) n n) n f :=
  ⟨_, _, rfl, ⟨⟨Nat.le_refl _, hn, by omega⟩, fun e => by cases e⟩, fun _ => ⟨g, rfl, fun _ hi => h.cell hi⟩, hf⟩
/-- v holds the number N. -/
def Num (w : World) (v : Value) (N : Nat) : Prop := ∃ n f, Wds w v n f ∧ Trim f n ∧ V f n = (N : Int)
theorem Num.gr {w w' : World} {v : Value} {N : Nat} (h : Num w v N) (k : Gr w w') : Num w' v N := by
  obtain ⟨n, f, h1, h2, h3⟩ := h
  exact ⟨n, f, h1.gr k, h2, h3⟩
/-- The call returns the number N. -/
def Gives (N : Nat) (e : Ending) (w' : World) : Prop := ∃ r, e = .returned r ∧ Num w' r N
theorem Gives.mk {N : Nat} {r : Value} {w' : World} (h : Num w' r N) : Gives N (.returned r) w' := ⟨r, rfl, h⟩
theorem Num.shape {w : World} {v : Value} {N : Nat} (h : Num w v N) : ∃ a n cap, v = .slice a n cap ∧ n ≤ 1000000 ∧ (n = 0 ↔ N = 0) := by
  obtain ⟨n, f, ⟨a, cap, h1, h2, h3, h4⟩, h5, h6⟩ := h
  refine ⟨a, n, cap, h1, by omega, ?_⟩
  rw [← V_zero_iff h4 h5, h6]
  omega
theorem Num.zero (w : World) : Num w (.slice none 0 0) 0 := ⟨0, fun _ => 0, ⟨none, 0, rfl, ⟨by omega, fun _ => rfl⟩, fun h => absurd h (by omega), fun _ h => absurd h (by omega)⟩, fun h => absurd h (by omega), rfl⟩

set_option maxRecDepth 100000 in
set_option maxHeartbeats 4000000 in
theorem trim_any {v : Value} {n : Nat} {f : Nat → Int} {N : Nat} (w : World) (h : Wds w v n f) (hN : V f n = (N : Int)) :
    Calls Tryd.prog 76 #[v] w fun e w' => Gives N e w' ∧ w = w' := by
  have HN := Lib.hid hN
  clear hN
  obtain ⟨a, cap, rfl, ⟨hcap, hcap2⟩, hA, hf⟩ := h
  have HA := Lib.hid hA
  have HF := Lib.hid hf
  have hn : (n : Int) ≤ 1000000 := by omega
  clear hA hf
  go_enter Tryd.func76, Tryd.ntmps76
  go_wp2
  go_loop [3] (fun i => ∃ m : Nat, m ≤ n ∧ i = .int .i64 m ∧ Hid (V f m = V f n)) (fun i => (intOf i).toNat)
  case atStart => exact ⟨n, Nat.le_refl _, rfl, rfl⟩
  case round =>
    obtain ⟨m, hm, rfl, HV⟩ := hrel
    rcases Nat.eq_zero_or_pos m with h0 | h0
    · subst h0
      go_wp2
      go_ret
      exact ⟨.mk ⟨0, f, ⟨_, _, rfl, ⟨⟨by omega, by omega, hcap.2.2⟩, hcap2⟩, fun h => absurd h (by omega), fun _ h => absurd h (by omega)⟩, fun h => absurd h (by omega), by rw [HV.out, HN.out]⟩, rfl⟩
    · obtain ⟨g, rfl, hC⟩ := HA.out (by omega)
      have c0 := hC (m - 1) (by omega)
      obtain ⟨k, rfl⟩ : ∃ k, m = k + 1 := ⟨m - 1, by omega⟩
      rw [Nat.add_sub_cancel] at c0
      clear hC
      have hb := HF.out k (by omega)
      by_cases hz : f k = 0
      · go_wp2
        go_round
        case rel => exact ⟨k, by omega, by go_num, by have := HV.out; rw [V, hz, Int.zero_mul, Int.add_zero] at this; exact this⟩
        case measure => simp [intOf] <;> omega
      · go_wp2
        go_ret
        refine ⟨.mk ⟨k + 1, f, ⟨_, _, rfl, ⟨⟨by omega, by omega, hcap.2.2⟩, hcap2⟩, fun _ => ⟨g, rfl, fun i hi => ?_⟩, HF.out.mono (by omega)⟩, fun _ => ?_, by rw [HV.out, HN.out]⟩, rfl⟩
        · obtain ⟨g', e, hC⟩ := HA.out (by omega)
          obtain rfl : g = g' := by simpa using e
          exact hC i (by omega)
        · rw [Nat.add_sub_cancel]; exact hz

set_option maxRecDepth 100000 in
set_option maxHeartbeats 4000000 in
/-- A number of at most two words, by itself. -/
theorem plain_any {v : Value} {N : Nat} (w : World) (h : Num w v N) (hN : (N : Int) < Bp 2) :
    Calls Tryd.prog 91 #[v] w fun e w' => e = .returned (.int .u64 (N : Int)) ∧ w = w' := by
  obtain ⟨n, f, hW, hT, hV⟩ := h
  have hl := len_of_lt hW.w32 hT (by rw [hV]; exact hN)
  have hf := hW.w32
  obtain ⟨a, cap, rfl, ⟨hcap, _⟩, hA, _⟩ := hW
  have HV := Lib.hid hV
  have HA := Lib.hid hA
  clear hV hA hT hN
  have hcases : n = 0 ∨ n = 1 ∨ n = 2 := by omega
  clear hl
  rcases hcases with rfl | rfl | rfl
  · have HR : Hid ((0 : Int) = (N : Int)) := Lib.hid HV.out
    clear HV HA hf
    go_enter Tryd.func91, Tryd.ntmps91
    go_wp2
    go_ret
    exact ⟨by rw [HR.out]; rfl, rfl⟩
  · obtain ⟨g, rfl, hC⟩ := HA.out (by omega)
    have c0 := hC 0 (by omega)
    have b0 := hf 0 (by omega)
    have HR : Hid (f 0 = (N : Int)) := Lib.hid (by rw [← HV.out]; simp [V, Bp])
    clear HV HA hf hC
    go_enter Tryd.func91, Tryd.ntmps91
    go_wp2
    go_ret
    exact ⟨by rw [HR.out]; rfl, rfl⟩
  · obtain ⟨g, rfl, hC⟩ := HA.out (by omega)
    have c0 := hC 0 (by omega)
    have c1 := hC 1 (by omega)
    have b0 := hf 0 (by omega)
    have b1 := hf 1 (by omega)
    have HR : Hid (bits BinOp.or IntKind.u64 (f 0) (f 1 * 4294967296) = (N : Int)) := Lib.hid (by rw [← HV.out, or_word b0 b1]; simp [V, Bp])
    clear HV HA hf hC
    go_enter Tryd.func91, Tryd.ntmps91
    go_wp2
    go_ret
    exact ⟨by rw [← HR.out]; rfl, rfl⟩

set_option maxRecDepth 100000 in
set_option maxHeartbeats 4000000 in
theorem cmp_any {v v' : Value} {A B : Nat} (w : World) (h : Num w v A) (h' : Num w v' B) :
    Calls Tryd.prog 67 #[v, v'] w fun e w' => e = .returned (.int .i64 (sg (A : Int) (B : Int))) ∧ Gr w w' := by
  obtain ⟨n, f, hW, hT, hV⟩ := h
  obtain ⟨n', f', hW', hT', hV'⟩ := h'
  have HF := Lib.hid hW.w32
  have HF' := Lib.hid hW'.w32
  have HT := Lib.hid hT
  have HT' := Lib.hid hT'
  have HV := Lib.hid hV
  have HV' := Lib.hid hV'
  obtain ⟨a, cap, rfl, ⟨hcap, _⟩, hA, _⟩ := hW
  obtain ⟨a', cap', rfl, ⟨hcap', _⟩, hA', _⟩ := hW'
  have HA := Lib.hid hA
  have HA' := Lib.hid hA'
  clear hA hA' hT hT' hV hV'
  have b1 : (n : Int) ≤ 1000000 := by omega
  have b2 : (n' : Int) ≤ 1000000 := by omega
  rcases Nat.lt_trichotomy n n' with h1 | h1 | h1
  · have HR : Hid (sg (A : Int) (B : Int) = -1) := Lib.hid (sg_lt (by rw [← HV.out, ← HV'.out]; exact V_len_lt HF.out HF'.out HT'.out h1))
    have h2 : (n : Int) < (n' : Int) := by omega
    go_enter Tryd.func67, Tryd.ntmps67
    go_wp2
    all_goals (try (exfalso; omega))
    go_ret
    exact ⟨by rw [HR.out]; rfl, Gr.refl _⟩
  · subst h1
    go_enter Tryd.func67, Tryd.ntmps67
    go_wp2
    go_loopw [5] (fun i wr => ∃ m : Nat, m ≤ n ∧ i = .int .i64 ((m : Int) - 1) ∧ Hid (∀ k, m ≤ k → k < n → f k = f' k) ∧ Hid (Gr w wr)) (fun i _ => (intOf i + 1).toNat)
    case atStart => exact ⟨n, Nat.le_refl _, rfl, fun k h1 h2 => absurd h1 (by omega), Gr.refl _⟩
    case round =>
      obtain ⟨m, hm, rfl, HE, HG⟩ := hrel
      rcases Nat.eq_zero_or_pos m with h0 | h0
      · subst h0
        have HR : Hid (sg (A : Int) (B : Int) = 0) := Lib.hid (sg_eq (by rw [← HV.out, ← HV'.out]; exact V_congr fun k hk => HE.out k (by omega) hk))
        go_wp2
        go_ret
        exact ⟨by rw [HR.out]; rfl, HG.out⟩
      · obtain ⟨k, rfl⟩ : ∃ k, m = k + 1 := ⟨m - 1, by omega⟩
        obtain ⟨g, rfl, hC⟩ := HA.out (by omega)
        obtain ⟨g', rfl, hC'⟩ := HA'.out (by omega)
        have c0 := HG.out.cell (hC k (by omega))
        have c1 := HG.out.cell (hC' k (by omega))
        have x0 := HF.out k (by omega)
        have x1 := HF'.out k (by omega)
        clear hC hC'
        have e1 : ((k + 1 : Nat) : Int) - 1 = (k : Int) := by omega
        rw [e1]
        clear e1
        have k0 : (0 : Int) ≤ (k : Int) := by omega
        have k1 : (k : Int) < (n : Int) := by omega
        rcases Int.lt_trichotomy (f k) (f' k) with h2 | h2 | h2
        · have HR : Hid (sg (A : Int) (B : Int) = -1) := Lib.hid (sg_lt (by rw [← HV.out, ← HV'.out]; exact V_lt HF.out HF'.out (by omega) (fun i h3 h4 => HE.out i (by omega) h4) h2))
          generalize f k = y at *
          generalize f' k = y' at *
          have hne : (y == y') = false := by simp; omega
          go_wp2
          go_quiet (fail)
          go_wp2
          go_quiet (fail)
          go_wp2
          go_ret
          exact ⟨by rw [HR.out]; rfl, (HG.out.drewN _).drewN _⟩
        · have HE2 : Hid (∀ i, k ≤ i → i < n → f i = f' i) := Lib.hid (fun i h3 h4 => by
            rcases Nat.lt_or_ge k i with h5 | h5
            · exact HE.out i (by omega) h4
            · obtain rfl : k = i := by omega
              exact h2)
          rw [← h2] at c1
          clear h2
          generalize f k = y at *
          go_wp2
          go_quiet (fail)
          go_wp2
          go_roundw
          case rel => exact ⟨k, by omega, by go_num, HE2.out, HG.out.drewN _⟩
          case measure => simp [intOf] <;> omega
        · have HR : Hid (sg (A : Int) (B : Int) = 1) := Lib.hid (sg_gt (by rw [← HV.out, ← HV'.out]; exact V_lt HF'.out HF.out (by omega) (fun i h3 h4 => (HE.out i (by omega) h4).symm) h2))
          generalize f k = y at *
          generalize f' k = y' at *
          have hne : (y == y') = false := by simp; omega
          go_wp2
          go_quiet (fail)
          go_wp2
          go_quiet (fail)
          go_wp2
          go_ret
          exact ⟨by rw [HR.out]; rfl, (HG.out.drewN _).drewN _⟩
  · have HR : Hid (sg (A : Int) (B : Int) = 1) := Lib.hid (sg_gt (by rw [← HV.out, ← HV'.out]; exact V_len_lt HF'.out HF.out HT.out h1))
    have h2 : (n' : Int) < (n : Int) := by omega
    go_enter Tryd.func67, Tryd.ntmps67
    go_wp2
    all_goals (try (exfalso; omega))
    go_ret
    exact ⟨by rw [HR.out]; rfl, Gr.refl _⟩
end Go.Proofs.YtogmjjaoflaogaaDoor

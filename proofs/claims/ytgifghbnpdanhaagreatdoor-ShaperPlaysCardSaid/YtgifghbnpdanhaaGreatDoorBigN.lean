/-
  Numbers by words of 32 bits: plain laws. No program is named here. Numbers by words of 32 bits: products, quotients. No program is named here. millracebig's words: trim, plain, cmp. millracebig's words: add, sub. millracebig's words: twin, words, small. millracebig's words: small, mul.
-/
import Derived.Test.YtgifghbnpdanhaaGreatDoorBlk
import Derived.Laws.BitsAllLaws
import Derived.BigGuardPart
import Derived.Laws.AppendOwnNone
import Derived.Deep.QuietTactic
import Derived.IntWalk
namespace Go.Proofs.YtgifghbnpdanhaaGreatDoor
open Go.RowKit

/-- 2^32 to so many. -/
def Bp : Nat → Int
  | 0 => 1
  | n + 1 => 4294967296 * Bp n
theorem Bp_pos (n : Nat) : 1 ≤ Bp n := by
  induction n with
  | zero => simp [Bp]
  | succ n ih => rw [Bp]; omega
theorem Bp_add (m n : Nat) : Bp (m + n) = Bp m * Bp n := by
  induction n with
  | zero => simp [Bp]
  | succ n ih => rw [Nat.add_succ, Bp, Bp, ih, Int.mul_left_comm]
theorem Bp_mono {m n : Nat} (h : m ≤ n) : Bp m ≤ Bp n := by
  induction n with
  | zero => rw [Nat.le_zero.1 h]; exact Int.le_refl _
  | succ n ih =>
    rcases Nat.lt_or_ge m (n + 1) with h1 | h1
    · have := ih (by omega)
      have := Bp_pos n
      rw [Bp]; omega
    · rw [show m = n + 1 by omega]; exact Int.le_refl _
/-- What n words make. -/
def V (f : Nat → Int) : Nat → Int
  | 0 => 0
  | n + 1 => V f n + f n * Bp n
/-- Each of n is a word. -/
def W32 (f : Nat → Int) (n : Nat) : Prop := ∀ i, i < n → 0 ≤ f i ∧ f i < 4294967296
theorem W32.mono {f : Nat → Int} {m n : Nat} (h : W32 f n) (k : m ≤ n) : W32 f m := fun i hi => h i (by omega)
theorem W32.upd {f : Nat → Int} {n i : Nat} {x : Int} (h : W32 f n) (hx : 0 ≤ x ∧ x < 4294967296) : W32 (upd f i x) n := by
  intro k hk
  unfold Proofs.YtgifghbnpdanhaaGreatDoor.upd
  split
  · exact hx
  · exact h k hk
theorem V_in {f : Nat → Int} {n : Nat} (h : W32 f n) : 0 ≤ V f n ∧ V f n < Bp n := by
  induction n with
  | zero => simp [V, Bp]
  | succ n ih =>
    have h1 := ih (h.mono (by omega))
    have h2 := h n (by omega)
    have h3 := Bp_pos n
    have h4 : 0 ≤ f n * Bp n := Int.mul_nonneg h2.1 (by omega)
    have h5 : f n * Bp n ≤ 4294967295 * Bp n := Int.mul_le_mul_of_nonneg_right (by omega) (by omega)
    rw [V, Bp]
    omega
theorem V_congr {f g : Nat → Int} {n : Nat} (h : ∀ i, i < n → f i = g i) : V f n = V g n := by
  induction n with
  | zero => rfl
  | succ n ih => rw [V, V, ih fun i hi => h i (by omega), h n (by omega)]
theorem V_zeros {f : Nat → Int} {m n : Nat} (h : m ≤ n) (hz : ∀ i, m ≤ i → i < n → f i = 0) : V f n = V f m := by
  induction n with
  | zero => rw [Nat.le_zero.1 h]
  | succ n ih =>
    rcases Nat.lt_or_ge m (n + 1) with h1 | h1
    · rw [V, hz n (by omega) (by omega), Int.zero_mul, Int.add_zero]
      exact ih (by omega) fun i h2 h3 => hz i h2 (by omega)
    · rw [show m = n + 1 by omega]
theorem V_upd {f : Nat → Int} {n i : Nat} (h : i < n) (x : Int) : V (upd f i x) n = V f n + (x - f i) * Bp i := by
  induction n with
  | zero => omega
  | succ n ih =>
    rw [V, V]
    rcases Nat.lt_or_ge i n with h1 | h1
    · rw [ih h1, upd_ne _ _ (by omega)]
      omega
    · obtain rfl : i = n := by omega
      rw [upd_at, V_congr (g := f) fun k hk => upd_ne _ _ (by omega), Int.sub_mul]
      omega
theorem V_upd_out {f : Nat → Int} {n i : Nat} (h : n ≤ i) (x : Int) : V (upd f i x) n = V f n :=
  V_congr fun k hk => upd_ne _ _ (by omega)
/-- Nothing but words that count. -/
def Trim (f : Nat → Int) (n : Nat) : Prop := 0 < n → f (n - 1) ≠ 0
theorem V_low {f : Nat → Int} {n : Nat} (h : W32 f n) (ht : Trim f n) (h0 : 0 < n) : Bp (n - 1) ≤ V f n := by
  obtain ⟨m, rfl⟩ : ∃ m, n = m + 1 := ⟨n - 1, by omega⟩
  have h1 := ht (by omega)
  rw [Nat.add_sub_cancel] at h1 ⊢
  have h2 := h m (by omega)
  have h3 := (V_in (h.mono (show m ≤ m + 1 by omega))).1
  have h4 : 1 * Bp m ≤ f m * Bp m := Int.mul_le_mul_of_nonneg_right (by omega) (by have := Bp_pos m; omega)
  rw [V]
  omega
theorem len_of_lt {f : Nat → Int} {n k : Nat} (h : W32 f n) (ht : Trim f n) (hv : V f n < Bp k) : n ≤ k := by
  rcases Nat.lt_or_ge k n with h1 | h1
  · have h2 := V_low h ht (by omega)
    have h3 := Bp_mono (show k ≤ n - 1 by omega)
    omega
  · exact h1
theorem V_zero_iff {f : Nat → Int} {n : Nat} (h : W32 f n) (ht : Trim f n) : V f n = 0 ↔ n = 0 := by
  constructor
  · intro e
    rcases Nat.eq_zero_or_pos n with h0 | h0
    · exact h0
    · have := V_low h ht h0
      have := Bp_pos (n - 1)
      omega
  · rintro rfl; rfl
/-- The highest word in which two part tells which is less. -/
theorem V_lt {f g : Nat → Int} {n j : Nat} (hf : W32 f n) (hg : W32 g n) (hj : j < n) (he : ∀ i, j < i → i < n → f i = g i) (hl : f j < g j) : V f n < V g n := by
  induction n with
  | zero => omega
  | succ n ih =>
    rw [V, V]
    rcases Nat.lt_or_ge j n with h1 | h1
    · have := ih (hf.mono (by omega)) (hg.mono (by omega)) h1 fun i h2 h3 => he i h2 (by omega)
      rw [he n h1 (by omega)]
      omega
    · obtain rfl : j = n := by omega
      have h2 := (V_in (hf.mono (show j ≤ j + 1 by omega))).2
      have h3 := (V_in (hg.mono (show j ≤ j + 1 by omega))).1
      have h4 : (f j + 1) * Bp j ≤ g j * Bp j := Int.mul_le_mul_of_nonneg_right (by omega) (by have := Bp_pos j; omega)
      rw [Int.add_mul] at h4
      omega
theorem V_len_lt {f g : Nat → Int} {m n : Nat} (hf : W32 f m) (hg : W32 g n) (ht : Trim g n) (h : m < n) : V f m < V g n := by
  have h1 := (V_in hf).2
  have h2 := V_low hg ht (by omega)
  have h3 := Bp_mono (show m ≤ n - 1 by omega)
  omega
/-- -1, 0, 1 -/
def sg (a b : Int) : Int := if a < b then -1 else if a = b then 0 else 1
theorem sg_lt {a b : Int} (h : a < b) : sg a b = -1 := by unfold sg; rw [if_pos h]
theorem sg_eq {a b : Int} (h : a = b) : sg a b = 0 := by unfold sg; rw [if_neg (by omega), if_pos h]
theorem sg_gt {a b : Int} (h : b < a) : sg a b = 1 := by unfold sg; rw [if_neg (by omega), if_neg (by omega)]
theorem sg_in (a b : Int) : sg a b = -1 ∨ sg a b = 0 ∨ sg a b = 1 := by unfold sg; split; exact .inl rfl; split; exact .inr (.inl rfl); exact .inr (.inr rfl)
theorem sg_mul {a b d : Int} (hd : 0 < d) : sg (a * d) (b * d) = sg a b := by
  rcases Int.lt_trichotomy a b with h | h | h
  · rw [sg_lt h, sg_lt (Int.mul_lt_mul_of_pos_right h hd)]
  · rw [sg_eq h, sg_eq (by rw [h])]
  · rw [sg_gt h, sg_gt (Int.mul_lt_mul_of_pos_right h hd)]
theorem sg_neg (a b : Int) : sg (-a) (-b) = - sg a b := by unfold sg; split <;> split <;> (try split) <;> (try split) <;> omega

/-- f, and noughts behind n -/
def ext (f : Nat → Int) (n : Nat) : Nat → Int := fun i => if i < n then f i else 0
theorem ext_in {f : Nat → Int} {n i : Nat} (h : i < n) : ext f n i = f i := if_pos h
theorem ext_out {f : Nat → Int} {n i : Nat} (h : n ≤ i) : ext f n i = 0 := if_neg (by omega)
theorem W32.ext {f : Nat → Int} {n : Nat} (h : W32 f n) (m : Nat) : W32 (ext f n) m := by
  intro i _
  unfold Proofs.YtgifghbnpdanhaaGreatDoor.ext
  split
  · exact h i (by assumption)
  · omega
theorem V_ext {f : Nat → Int} {n m : Nat} (h : n ≤ m) : V (ext f n) m = V f n := by
  rw [V_zeros h fun i h1 _ => ext_out h1]
  exact V_congr fun i hi => ext_in hi

/-- One word of a sum. -/
theorem add_step {r c x p : Int} : r + (x % 4294967296) * p + (x / 4294967296) * (4294967296 * p) = r + c * p + (x - c) * p := by
  have h := Int.mul_ediv_add_emod x 4294967296
  generalize x / 4294967296 = q at *
  generalize x % 4294967296 = m at *
  subst h
  grind
/-- One word of a difference. -/
theorem sub_step {d : Int} (h : -4294967296 ≤ d ∧ d < 4294967296) : (d % 4294967296) - (if d < 0 then 1 else 0) * 4294967296 = d := by
  split <;> omega

/-- One word of a product. -/
theorem mul_step {s c a b r p x : Int} (hx : x = c + a * b + r) : s + (x % 4294967296 - r) * p + x / 4294967296 * (4294967296 * p) = s + c * p + a * b * p := by
  have h := Int.mul_ediv_add_emod x 4294967296
  generalize x / 4294967296 = q at *
  generalize x % 4294967296 = m at *
  grind
theorem mul_word {a b : Int} (ha : 0 ≤ a ∧ a < 4294967296) (hb : 0 ≤ b ∧ b < 4294967296) : 0 ≤ a * b ∧ a * b ≤ 18446744065119617025 := by
  refine ⟨Int.mul_nonneg ha.1 hb.1, ?_⟩
  have h1 : a * b ≤ 4294967295 * b := Int.mul_le_mul_of_nonneg_right (by omega) hb.1
  omega
theorem or_high {x y : Int} {n : Nat} (hx : 0 ≤ x) (hy : 0 ≤ y) (hn : x < ((2 ^ n : Nat) : Int)) (h1 : y * ((2 ^ n : Nat) : Int) < 18446744073709551616) (h2 : x < 18446744073709551616) :
    bits BinOp.or IntKind.u64 x (y * ((2 ^ n : Nat) : Int)) = x + y * ((2 ^ n : Nat) : Int) := by
  obtain ⟨a, rfl⟩ := Int.eq_ofNat_of_zero_le hx
  obtain ⟨b, rfl⟩ := Int.eq_ofNat_of_zero_le hy
  rw [← Int.natCast_mul] at *
  rw [u64_or_nat _ _ (by omega) (by omega), Nat.or_comm, ← Nat.shiftLeft_eq, ← Nat.shiftLeft_add_eq_or_of_lt (by omega), Nat.shiftLeft_eq]
  omega
theorem or_word {x y : Int} (hx : 0 ≤ x ∧ x < 4294967296) (hy : 0 ≤ y ∧ y < 4294967296) : bits BinOp.or IntKind.u64 x (y * 4294967296) = x + y * 4294967296 :=
  or_high (n := 32) hx.1 hy.1 (by simpa using hx.2) (by simp; omega) (by omega)
/-- One word of a quotient by one word. -/
theorem small_step {s r a d p x : Int} (hx : x = r * 4294967296 + a) : s + x / d * p * d + x % d * p = s + r * (4294967296 * p) + a * p := by
  have h := Int.mul_ediv_add_emod x d
  generalize x / d = q at *
  generalize x % d = m at *
  grind
theorem small_word {r a d : Int} (hr : 0 ≤ r ∧ r < d) (ha : 0 ≤ a ∧ a < 4294967296) : 0 ≤ (r * 4294967296 + a) / d ∧ (r * 4294967296 + a) / d < 4294967296 := by
  refine ⟨Int.ediv_nonneg (by omega) (by omega), ?_⟩
  refine Int.ediv_lt_of_lt_mul (by omega) ?_
  omega

/-- v is a slice of n words f. -/
def Wds (w : World) (v : Value) (n : Nat) (f : Nat → Int) : Prop :=
  ∃ a cap, v = .slice a n cap ∧ ((n ≤ cap ∧ n ≤ 1000000 ∧ cap ≤ 9223372036854775807) ∧ (a = none → cap = 0)) ∧ (0 < n → ∃ g, a = some ⟨g, 0, none⟩ ∧ ∀ i, i < n → w.cell? ⟨g, i, none⟩ = some (.int .u32 (f i))) ∧ W32 f n
theorem Wds.gr {w w' : World} {v : Value} {n : Nat} {f : Nat → Int} (h : Wds w v n f) (k : Gr w w') : Wds w' v n f := by
  obtain ⟨a, cap, h1, h2, h3, h4⟩ := h
  refine ⟨a, cap, h1, h2, fun h0 => ?_, h4⟩
  obtain ⟨g, h5, h6⟩ := h3 h0
  exact ⟨g, h5, fun i hi => k.cell (h6 i hi)⟩
theorem Wds.congr {w : World} {v : Value} {n : Nat} {f f' : Nat → Int} (h : Wds w v n f) (k : ∀ i, i < n → f i = f' i) : Wds w v n f' := by
  obtain ⟨a, cap, h1, h2, h3, h4⟩ := h
  refine ⟨a, cap, h1, h2, fun h0 => ?_, fun i hi => by rw [← k i hi]; exact h4 i hi⟩
  obtain ⟨g, h5, h6⟩ := h3 h0
  exact ⟨g, h5, fun i hi => by rw [← k i hi]; exact h6 i hi⟩
theorem Wds.w32 {w : World} {v : Value} {n : Nat} {f : Nat → Int} (h : Wds w v n f) : W32 f n := by
  obtain ⟨_, _, _, _, _, h⟩ := h; exact h
theorem Blk.wds {T : TypeId} {w : World} {g n : Nat} {f : Nat → Int} (h : Blk .u32 T w g n f) (hn : n ≤ 1000000) (hf : W32 f n) : Wds w (.slice (some ⟨g, 0, none⟩) n n) n f :=
  ⟨_, _, rfl, ⟨⟨Nat.le_refl _, hn, by omega⟩, fun e => by cases e⟩, fun _ => ⟨g, rfl, fun _ hi => h.cell hi⟩, hf⟩
/-- v holds the number N. -/
def Num (w : World) (v : Value) (N : Nat) : Prop := ∃ n f, Wds w v n f ∧ Trim f n ∧ V f n = (N : Int)
theorem Num.gr {w w' : World} {v : Value} {N : Nat} (h : Num w v N) (k : Gr w w') : Num w' v N := by
  obtain ⟨n, f, h1, h2, h3⟩ := h
  exact ⟨n, f, h1.gr k, h2, h3⟩
/-- The call returns the number N. -/
def Gives (N : Nat) (e : Ending) (w' : World) : Prop := ∃ r, e = .returned r ∧ Num w' r N
theorem Gives.mk {N : Nat} {r : Value} {w' : World} (h : Num w' r N) : Gives N (.returned r) w' := ⟨r, rfl, h⟩
theorem Num.shape {w : World} {v : Value} {N : Nat} (h : Num w v N) : ∃ a n cap, v = .slice a n cap ∧ n ≤ 1000000 ∧ (n = 0 ↔ N = 0) := by
  obtain ⟨n, f, ⟨a, cap, h1, h2, h3, h4⟩, h5, h6⟩ := h
  refine ⟨a, n, cap, h1, by omega, ?_⟩
  rw [← V_zero_iff h4 h5, h6]
  omega
theorem Num.zero (w : World) : Num w (.slice none 0 0) 0 := ⟨0, fun _ => 0, ⟨none, 0, rfl, ⟨by omega, fun _ => rfl⟩, fun h => absurd h (by omega), fun _ h => absurd h (by omega)⟩, fun h => absurd h (by omega), rfl⟩

set_option maxRecDepth 100000 in
set_option maxHeartbeats 4000000 in
theorem trim_any {v : Value} {n : Nat} {f : Nat → Int} {N : Nat} (w : World) (h : Wds w v n f) (hN : V f n = (N : Int)) :
    Calls Tryz.prog 58 #[v] w fun e w' => Gives N e w' ∧ w = w' := by
  have HN := Lib.hid hN
  clear hN
  obtain ⟨a, cap, rfl, ⟨hcap, hcap2⟩, hA, hf⟩ := h
  have HA := Lib.hid hA
  have HF := Lib.hid hf
  have hn : (n : Int) ≤ 1000000 := by omega
  clear hA hf
  go_enter Tryz.func58, Tryz.ntmps58
  go_wp2
  go_loop [3] (fun i => ∃ m : Nat, m ≤ n ∧ i = .int .i64 m ∧ Hid (V f m = V f n)) (fun i => (intOf i).toNat)
  case atStart => exact ⟨n, Nat.le_refl _, rfl, rfl⟩
  case round =>
    obtain ⟨m, hm, rfl, HV⟩ := hrel
    rcases Nat.eq_zero_or_pos m with h0 | h0
    · subst h0
      go_wp2
      go_ret
      exact ⟨.mk ⟨0, f, ⟨_, _, rfl, ⟨⟨by omega, by omega, hcap.2.2⟩, hcap2⟩, fun h => absurd h (by omega), fun _ h => absurd h (by omega)⟩, fun h => absurd h (by omega), by rw [HV.out, HN.out]⟩, rfl⟩
    · obtain ⟨g, rfl, hC⟩ := HA.out (by omega)
      have c0 := hC (m - 1) (by omega)
      obtain ⟨k, rfl⟩ : ∃ k, m = k + 1 := ⟨m - 1, by omega⟩
      rw [Nat.add_sub_cancel] at c0
      clear hC
      have hb := HF.out k (by omega)
      by_cases hz : f k = 0
      · go_wp2
        go_round
        case rel => exact ⟨k, by omega, by go_num, by have := HV.out; rw [V, hz, Int.zero_mul, Int.add_zero] at this; exact this⟩
        case measure => simp [intOf] <;> omega
      · go_wp2
        go_ret
        refine ⟨.mk ⟨k + 1, f, ⟨_, _, rfl, ⟨⟨by omega, by omega, hcap.2.2⟩, hcap2⟩, fun _ => ⟨g, rfl, fun i hi => ?_⟩, HF.out.mono (by omega)⟩, fun _ => ?_, by rw [HV.out, HN.out]⟩, rfl⟩
        · obtain ⟨g', e, hC⟩ := HA.out (by omega)
          obtain rfl : g = g' := by simpa using e
          exact hC i (by omega)
        · rw [Nat.add_sub_cancel]; exact hz

set_option maxRecDepth 100000 in
set_option maxHeartbeats 4000000 in
/-- A number of at most two words, by itself. -/
theorem plain_any {v : Value} {N : Nat} (w : World) (h : Num w v N) (hN : (N : Int) < Bp 2) :
    Calls Tryz.prog 55 #[v] w fun e w' => e = .returned (.int .u64 (N : Int)) ∧ w = w' := by
  obtain ⟨n, f, hW, hT, hV⟩ := h
  have hl := len_of_lt hW.w32 hT (by rw [hV]; exact hN)
  have hf := hW.w32
  obtain ⟨a, cap, rfl, ⟨hcap, _⟩, hA, _⟩ := hW
  have HV := Lib.hid hV
  have HA := Lib.hid hA
  clear hV hA hT hN
  have hcases : n = 0 ∨ n = 1 ∨ n = 2 := by omega
  clear hl
  rcases hcases with rfl | rfl | rfl
  · have HR : Hid ((0 : Int) = (N : Int)) := Lib.hid HV.out
    clear HV HA hf
    go_enter Tryz.func55, Tryz.ntmps55
    go_wp2
    go_ret
    exact ⟨by rw [HR.out]; rfl, rfl⟩
  · obtain ⟨g, rfl, hC⟩ := HA.out (by omega)
    have c0 := hC 0 (by omega)
    have b0 := hf 0 (by omega)
    have HR : Hid (f 0 = (N : Int)) := Lib.hid (by rw [← HV.out]; simp [V, Bp])
    clear HV HA hf hC
    go_enter Tryz.func55, Tryz.ntmps55
    go_wp2
    go_ret
    exact ⟨by rw [HR.out]; rfl, rfl⟩
  · obtain ⟨g, rfl, hC⟩ := HA.out (by omega)
    have c0 := hC 0 (by omega)
    have c1 := hC 1 (by omega)
    have b0 := hf 0 (by omega)
    have b1 := hf 1 (by omega)
    have HR : Hid (bits BinOp.or IntKind.u64 (f 0) (f 1 * 4294967296) = (N : Int)) := Lib.hid (by rw [← HV.out, or_word b0 b1]; simp [V, Bp])
    clear HV HA hf hC
    go_enter Tryz.func55, Tryz.ntmps55
    go_wp2
    go_ret
    exact ⟨by rw [← HR.out]; rfl, rfl⟩

set_option maxRecDepth 100000 in
set_option maxHeartbeats 4000000 in
theorem cmp_any {v v' : Value} {A B : Nat} (w : World) (h : Num w v A) (h' : Num w v' B) :
    Calls Tryz.prog 56 #[v, v'] w fun e w' => e = .returned (.int .i64 (sg (A : Int) (B : Int))) ∧ Gr w w' := by
  obtain ⟨n, f, hW, hT, hV⟩ := h
  obtain ⟨n', f', hW', hT', hV'⟩ := h'
  have HF := Lib.hid hW.w32
  have HF' := Lib.hid hW'.w32
  have HT := Lib.hid hT
  have HT' := Lib.hid hT'
  have HV := Lib.hid hV
  have HV' := Lib.hid hV'
  obtain ⟨a, cap, rfl, ⟨hcap, _⟩, hA, _⟩ := hW
  obtain ⟨a', cap', rfl, ⟨hcap', _⟩, hA', _⟩ := hW'
  have HA := Lib.hid hA
  have HA' := Lib.hid hA'
  clear hA hA' hT hT' hV hV'
  have b1 : (n : Int) ≤ 1000000 := by omega
  have b2 : (n' : Int) ≤ 1000000 := by omega
  rcases Nat.lt_trichotomy n n' with h1 | h1 | h1
  · have HR : Hid (sg (A : Int) (B : Int) = -1) := Lib.hid (sg_lt (by rw [← HV.out, ← HV'.out]; exact V_len_lt HF.out HF'.out HT'.out h1))
    have h2 : (n : Int) < (n' : Int) := by omega
    go_enter Tryz.func56, Tryz.ntmps56
    go_wp2
    all_goals (try (exfalso; omega))
    go_ret
    exact ⟨by rw [HR.out]; rfl, Gr.refl _⟩
  · subst h1
    go_enter Tryz.func56, Tryz.ntmps56
    go_wp2
    go_loopw [5] (fun i wr => ∃ m : Nat, m ≤ n ∧ i = .int .i64 ((m : Int) - 1) ∧ Hid (∀ k, m ≤ k → k < n → f k = f' k) ∧ Hid (Gr w wr)) (fun i _ => (intOf i + 1).toNat)
    case atStart => exact ⟨n, Nat.le_refl _, rfl, fun k h1 h2 => absurd h1 (by omega), Gr.refl _⟩
    case round =>
      obtain ⟨m, hm, rfl, HE, HG⟩ := hrel
      rcases Nat.eq_zero_or_pos m with h0 | h0
      · subst h0
        have HR : Hid (sg (A : Int) (B : Int) = 0) := Lib.hid (sg_eq (by rw [← HV.out, ← HV'.out]; exact V_congr fun k hk => HE.out k (by omega) hk))
        go_wp2
        go_ret
        exact ⟨by rw [HR.out]; rfl, HG.out⟩
      · obtain ⟨k, rfl⟩ : ∃ k, m = k + 1 := ⟨m - 1, by omega⟩
        obtain ⟨g, rfl, hC⟩ := HA.out (by omega)
        obtain ⟨g', rfl, hC'⟩ := HA'.out (by omega)
        have c0 := HG.out.cell (hC k (by omega))
        have c1 := HG.out.cell (hC' k (by omega))
        have x0 := HF.out k (by omega)
        have x1 := HF'.out k (by omega)
        clear hC hC'
        have e1 : ((k + 1 : Nat) : Int) - 1 = (k : Int) := by omega
        rw [e1]
        clear e1
        have k0 : (0 : Int) ≤ (k : Int) := by omega
        have k1 : (k : Int) < (n : Int) := by omega
        rcases Int.lt_trichotomy (f k) (f' k) with h2 | h2 | h2
        · have HR : Hid (sg (A : Int) (B : Int) = -1) := Lib.hid (sg_lt (by rw [← HV.out, ← HV'.out]; exact V_lt HF.out HF'.out (by omega) (fun i h3 h4 => HE.out i (by omega) h4) h2))
          generalize f k = y at *
          generalize f' k = y' at *
          have hne : (y == y') = false := by simp; omega
          go_wp2
          go_quiet (fail)
          go_wp2
          go_quiet (fail)
          go_wp2
          go_ret
          exact ⟨by rw [HR.out]; rfl, (HG.out.drewN _).drewN _⟩
        · have HE2 : Hid (∀ i, k ≤ i → i < n → f i = f' i) := Lib.hid (fun i h3 h4 => by
            rcases Nat.lt_or_ge k i with h5 | h5
            · exact HE.out i (by omega) h4
            · obtain rfl : k = i := by omega
              exact h2)
          rw [← h2] at c1
          clear h2
          generalize f k = y at *
          go_wp2
          go_quiet (fail)
          go_wp2
          go_roundw
          case rel => exact ⟨k, by omega, by go_num, HE2.out, HG.out.drewN _⟩
          case measure => simp [intOf] <;> omega
        · have HR : Hid (sg (A : Int) (B : Int) = 1) := Lib.hid (sg_gt (by rw [← HV.out, ← HV'.out]; exact V_lt HF'.out HF.out (by omega) (fun i h3 h4 => (HE.out i (by omega) h4).symm) h2))
          generalize f k = y at *
          generalize f' k = y' at *
          have hne : (y == y') = false := by simp; omega
          go_wp2
          go_quiet (fail)
          go_wp2
          go_quiet (fail)
          go_wp2
          go_ret
          exact ⟨by rw [HR.out]; rfl, (HG.out.drewN _).drewN _⟩
  · have HR : Hid (sg (A : Int) (B : Int) = 1) := Lib.hid (sg_gt (by rw [← HV.out, ← HV'.out]; exact V_len_lt HF'.out HF.out HT.out h1))
    have h2 : (n' : Int) < (n : Int) := by omega
    go_enter Tryz.func56, Tryz.ntmps56
    go_wp2
    all_goals (try (exfalso; omega))
    go_ret
    exact ⟨by rw [HR.out]; rfl, Gr.refl _⟩

theorem info_u32 : (Tryz.prog.info? 182).map (fun i => (i.zero, i.size, i.bytes)) = some (some (.int .u32 0), 1, 4) := by kernel_rfl

/-- The sum's state behind k words. -/
def AddAt (w0 w : World) (g n n' : Nat) (f f' : Nat → Int) (k : Nat) (c : Int) : Prop :=
  ∃ r, Blk .u32 182 w g (n + 1) r ∧ W32 r (n + 1) ∧ (∀ j, k ≤ j → r j = 0) ∧ V r (n + 1) + c * Bp k = V f k + V (ext f' n') k ∧ ∀ u, Gr u w0 → Gr u w
theorem AddAt.start {w0 w : World} {g n n' : Nat} {f f' : Nat → Int} (hb : Blk .u32 182 w g (n + 1) fun _ => 0) (hg : ∀ u, Gr u w0 → Gr u w) : AddAt w0 w g n n' f f' 0 0 :=
  ⟨_, hb, fun _ _ => ⟨Int.le_refl _, by show (0 : Int) < _; omega⟩, fun _ _ => rfl, by rw [V_zeros (Nat.zero_le _) fun _ _ _ => rfl]; simp [V], hg⟩
theorem AddAt.step {w0 w : World} {g n n' : Nat} {f f' : Nat → Int} {k : Nat} {c x : Int} (h : AddAt w0 w g n n' f f' k c) (hk : k < n) (hg : w0.heap.size ≤ g) (hx : x = c + f k + ext f' n' k) :
    AddAt w0 (w.setCell ⟨g, k, none⟩ (.int .u32 (x % 4294967296))) g n n' f f' (k + 1) (x / 4294967296) := by
  obtain ⟨r, h1, h2, h3, h4, h5⟩ := h
  refine ⟨upd r k (x % 4294967296), h1.set _ _, h2.upd (by omega), fun j hj => ?_, ?_, fun u hu => (h5 u hu).setCell (by have := hu.size; simp; omega) _⟩
  · rw [upd_ne _ _ (by omega)]; exact h3 j (by omega)
  · have e1 : V f (k + 1) = V f k + f k * Bp k := rfl
    have e2 : V (ext f' n') (k + 1) = V (ext f' n') k + ext f' n' k * Bp k := rfl
    have e3 := add_step (r := V r (n + 1)) (c := c) (x := x) (p := Bp k)
    rw [V_upd (by omega), h3 k (Nat.le_refl _), Int.sub_zero, Bp, e3, e1, e2, h4, hx]
    grind
theorem AddAt.cell {w0 w : World} {g n n' : Nat} {f f' : Nat → Int} {k : Nat} {c : Int} (h : AddAt w0 w g n n' f f' k c) {p : Addr} {v : Value} (hp : w0.cell? p = some v) : w.cell? p = some v := by
  obtain ⟨r, _, _, _, _, h5⟩ := h
  exact (h5 w0 (Gr.refl _)).cell hp
theorem AddAt.free {w0 w : World} {g n n' : Nat} {f f' : Nat → Int} {k : Nat} {c : Int} (h : AddAt w0 w g n n' f f' k c) (j : Nat) (hj : j < n + 1) : (∃ x, w.cell? ⟨g, j, none⟩ = some (.int .u32 x)) ∧ w.frozen? ⟨g, j, none⟩ = false := by
  obtain ⟨r, h1, _⟩ := h
  exact ⟨⟨_, h1.cell hj⟩, h1.free j⟩
theorem AddAt.last {w0 w : World} {g n n' : Nat} {f f' : Nat → Int} {c : Int} (h : AddAt w0 w g n n' f f' n c) (hn : n' ≤ n) (hg : w0.heap.size ≤ g) (hb : n ≤ 100) (hc : 0 ≤ c ∧ c < 4294967296) :
    ∃ r, Wds (w.setCell ⟨g, n, none⟩ (.int .u32 c)) (.slice (some ⟨g, 0, none⟩) (n + 1) (n + 1)) (n + 1) r ∧ V r (n + 1) = V f n + V f' n' ∧ ∀ u, Gr u w0 → Gr u (w.setCell ⟨g, n, none⟩ (.int .u32 c)) := by
  obtain ⟨r, h1, h2, h3, h4, h5⟩ := h
  refine ⟨upd r n c, (h1.set _ _).wds (by omega) (h2.upd hc), ?_, fun u hu => (h5 u hu).setCell (by have := hu.size; simp; omega) _⟩
  rw [V_upd (by omega), h3 n (Nat.le_refl _), Int.sub_zero, h4, V_ext hn]

set_option maxRecDepth 100000 in
set_option maxHeartbeats 4000000 in
theorem add_long {v v' : Value} {n n' : Nat} {f f' : Nat → Int} {A B : Nat} (w : World) (h : Wds w v n f) (h' : Wds w v' n' f') (hn : n' ≤ n) (hb : n ≤ 100) (hA : V f n = (A : Int)) (hB : V f' n' = (B : Int)) (sw : Bool) (hs : sw = true → n' < n) :
    Calls Tryz.prog 137 #[if sw then v' else v, if sw then v else v'] w fun e w' => Gives (A + B) e w' ∧ Gr w w' := by
  have HF := Lib.hid h.w32
  have HF' := Lib.hid h'.w32
  have HA := Lib.hid hA
  have HB := Lib.hid hB
  obtain ⟨a, cap, rfl, ⟨hcap, _⟩, hA1, _⟩ := h
  obtain ⟨a', cap', rfl, ⟨hcap', _⟩, hA2, _⟩ := h'
  have HA1 := Lib.hid hA1
  have HA2 := Lib.hid hA2
  clear hA1 hA2 hA hB
  have b1 : (n : Int) ≤ 100 := by omega
  have b2 : (n' : Int) ≤ (n : Int) := by omega
  have b3 : sw = true → (n' : Int) < (n : Int) := fun e => by have := hs e; omega
  clear hs
  cases sw
  all_goals
    (try (have b4 := b3 rfl))
    clear b3
    simp only [Bool.false_eq_true, if_false, if_true]
    go_enter Tryz.func137, Tryz.ntmps137
    go_wp2_with (at_make; refine wpList_make_blk info_u32 (by rfl) _ _ _ (by rfl) (by kernel_rfl) .i64 .i64 _ _ (n + 1) (by rfl) (by rfl) (by simp) (by simp) (by omega) (by omega) ?_; intro w1 hblk hmk)
    have HI : Hid (AddAt w w1 w.heap.size n n' f f' 0 0) := Lib.hid (.start hblk hmk)
    clear hblk hmk
    go_loopw [6, 7] (fun c i wr => ∃ k : Nat, k ≤ n ∧ i = .int .i64 k ∧ ∃ x : Int, c = .int .u64 x ∧ (0 ≤ x ∧ x ≤ 1) ∧ Hid (AddAt w wr w.heap.size n n' f f' k x)) (fun _ i _ => n - (intOf i).toNat)
    case atStart => exact ⟨0, Nat.zero_le _, rfl, 0, rfl, by omega, HI⟩
    case round =>
      obtain ⟨k, hk, rfl, x, rfl, hx, HI⟩ := hrel
      by_cases hlt : k < n
      · obtain ⟨g, rfl, hC⟩ := HA1.out (by omega)
        have c0 := HI.out.cell (hC k hlt)
        have x0 := HF.out k hlt
        have x1 := HI.out.free k (by omega)
        obtain ⟨⟨y, x1⟩, x2⟩ := x1
        clear hC
        have k0 : (0 : Int) ≤ (k : Int) := by omega
        have k1 : (k : Int) < (n : Int) := by omega
        by_cases hlt' : k < n'
        · obtain ⟨g', rfl, hC'⟩ := HA2.out (by omega)
          have c1 := HI.out.cell (hC' k hlt')
          have x3 := HF'.out k hlt'
          clear hC'
          have k2 : (k : Int) < (n' : Int) := by omega
          have HE := Lib.hid (ext_in (f := f') hlt')
          have HX : Hid (AddAt w (wr.setCell ⟨w.heap.size, k, none⟩ (.int .u32 ((x + f k + f' k) % 4294967296))) w.heap.size n n' f f' (k + 1) ((x + f k + f' k) / 4294967296)) := Lib.hid (HI.out.step hlt (Nat.le_refl _) (by rw [HE.out]))
          generalize f k = y at *
          generalize f' k = y' at *
          go_wp2
          go_roundw
          case rel => exact ⟨k + 1, by omega, by go_num, _, rfl, by omega, HX⟩
          case measure => simp [intOf] <;> omega
        · have k2 : (n' : Int) ≤ (k : Int) := by omega
          have HE := Lib.hid (ext_out (f := f') (Nat.le_of_not_lt hlt'))
          have HX : Hid (AddAt w (wr.setCell ⟨w.heap.size, k, none⟩ (.int .u32 ((x + f k) % 4294967296))) w.heap.size n n' f f' (k + 1) ((x + f k) / 4294967296)) := Lib.hid (HI.out.step hlt (Nat.le_refl _) (by rw [HE.out, Int.add_zero]))
          generalize f k = y at *
          go_wp2
          go_roundw
          case rel => exact ⟨k + 1, by omega, by go_num, _, rfl, by omega, HX⟩
          case measure => simp [intOf] <;> omega
      · obtain rfl : k = n := by omega
        obtain ⟨⟨y, x1⟩, x2⟩ := HI.out.free k (by omega)
        obtain ⟨r, hw, hv, hg⟩ := HI.out.last hn (Nat.le_refl _) hb (by omega)
        have HW := Lib.hid hw
        have HV := Lib.hid (show V r (k + 1) = ((A + B : Nat) : Int) by rw [hv, HA.out, HB.out]; simp)
        have HG := Lib.hid (hg w (Gr.refl _))
        clear hw hv hg
        have HM : Hid (x % 4294967296 = x) := Lib.hid (by omega)
        go_wp2_with (go_at_call 58; refine (trim_any _ HW.out HV.out).mono ?_; rintro e w' ⟨⟨r', rfl, hr⟩, rfl⟩)
        go_ret
        exact ⟨.mk hr, HG.out⟩
/-- The sum of two numbers. -/
theorem add_any {v v' : Value} {A B : Nat} (w : World) (h : Num w v A) (h' : Num w v' B) (hA : (A : Int) < Bp 40) (hB : (B : Int) < Bp 40) :
    Calls Tryz.prog 137 #[v, v'] w fun e w' => Gives (A + B) e w' ∧ Gr w w' := by
  obtain ⟨n, f, h1, h2, h3⟩ := h
  obtain ⟨n', f', h4, h5, h6⟩ := h'
  have l1 := len_of_lt h1.w32 h2 (by rw [h3]; exact hA)
  have l2 := len_of_lt h4.w32 h5 (by rw [h6]; exact hB)
  rcases Nat.lt_or_ge n n' with hl | hl
  · have := add_long w h4 h1 (by omega) (by omega) h6 h3 true (fun _ => hl)
    rw [Nat.add_comm] at this
    exact this
  · exact add_long w h1 h4 hl (by omega) h3 h6 false (fun e => absurd e (by decide))

/-- The difference's state behind k words. -/
def SubAt (w0 w : World) (g n n' : Nat) (f f' : Nat → Int) (k : Nat) (c : Int) : Prop :=
  ∃ r, Blk .u32 182 w g n r ∧ W32 r n ∧ (∀ j, k ≤ j → r j = 0) ∧ V r n - c * Bp k = V f k - V (ext f' n') k ∧ ∀ u, Gr u w0 → Gr u w
theorem SubAt.start {w0 w : World} {g n n' : Nat} {f f' : Nat → Int} (hb : Blk .u32 182 w g n fun _ => 0) (hg : ∀ u, Gr u w0 → Gr u w) : SubAt w0 w g n n' f f' 0 0 :=
  ⟨_, hb, fun _ _ => ⟨Int.le_refl _, by show (0 : Int) < _; omega⟩, fun _ _ => rfl, by rw [V_zeros (Nat.zero_le _) fun _ _ _ => rfl]; simp [V], hg⟩
theorem SubAt.step {w0 w : World} {g n n' : Nat} {f f' : Nat → Int} {k : Nat} {c x c' : Int} (h : SubAt w0 w g n n' f f' k c) (hk : k < n) (hg : w0.heap.size ≤ g) (hx : 0 ≤ x ∧ x < 4294967296) (he : x - c' * 4294967296 = f k - c - ext f' n' k) :
    SubAt w0 (w.setCell ⟨g, k, none⟩ (.int .u32 x)) g n n' f f' (k + 1) c' := by
  obtain ⟨r, h1, h2, h3, h4, h5⟩ := h
  refine ⟨upd r k x, h1.set _ _, h2.upd hx, fun j hj => ?_, ?_, fun u hu => (h5 u hu).setCell (by have := hu.size; simp; omega) _⟩
  · rw [upd_ne _ _ (by omega)]; exact h3 j (by omega)
  · have e1 : V f (k + 1) = V f k + f k * Bp k := rfl
    have e2 : V (ext f' n') (k + 1) = V (ext f' n') k + ext f' n' k * Bp k := rfl
    rw [V_upd (by omega), h3 k (Nat.le_refl _), Int.sub_zero, Bp, e1, e2]
    generalize Bp k = p at *
    generalize ext f' n' k = y at *
    generalize V (ext f' n') k = z at *
    grind
theorem SubAt.cell {w0 w : World} {g n n' : Nat} {f f' : Nat → Int} {k : Nat} {c : Int} (h : SubAt w0 w g n n' f f' k c) {p : Addr} {v : Value} (hp : w0.cell? p = some v) : w.cell? p = some v := by
  obtain ⟨r, _, _, _, _, h5⟩ := h
  exact (h5 w0 (Gr.refl _)).cell hp
theorem SubAt.free {w0 w : World} {g n n' : Nat} {f f' : Nat → Int} {k : Nat} {c : Int} (h : SubAt w0 w g n n' f f' k c) (j : Nat) (hj : j < n) : (∃ x, w.cell? ⟨g, j, none⟩ = some (.int .u32 x)) ∧ w.frozen? ⟨g, j, none⟩ = false := by
  obtain ⟨r, h1, _⟩ := h
  exact ⟨⟨_, h1.cell hj⟩, h1.free j⟩
theorem SubAt.last {w0 w : World} {g n n' : Nat} {f f' : Nat → Int} {c : Int} (h : SubAt w0 w g n n' f f' n c) (hn : n' ≤ n) (hb : n ≤ 100) (hc : 0 ≤ c ∧ c ≤ 1) (hle : V f' n' ≤ V f n) :
    ∃ r, Wds w (.slice (some ⟨g, 0, none⟩) n n) n r ∧ V r n = V f n - V f' n' ∧ ∀ u, Gr u w0 → Gr u w := by
  obtain ⟨r, h1, h2, h3, h4, h5⟩ := h
  refine ⟨r, h1.wds (by omega) h2, ?_, h5⟩
  rw [V_ext hn] at h4
  have := V_in h2
  have hc' : c = 0 ∨ c = 1 := by omega
  rcases hc' with rfl | rfl
  · omega
  · omega

set_option maxRecDepth 100000 in
set_option maxHeartbeats 4000000 in
theorem sub_any {v v' : Value} {A B : Nat} (w : World) (h : Num w v A) (h' : Num w v' B) (hA : (A : Int) < Bp 40) (hle : B ≤ A) :
    Calls Tryz.prog 138 #[v, v'] w fun e w' => Gives (A - B) e w' ∧ Gr w w' := by
  obtain ⟨n, f, hW, hT, hV⟩ := h
  obtain ⟨n', f', hW', hT', hV'⟩ := h'
  have l1 := len_of_lt hW.w32 hT (by rw [hV]; exact hA)
  have l2 : n' ≤ n := by
    rcases Nat.lt_or_ge n n' with h1 | h1
    · have := V_len_lt hW.w32 hW'.w32 hT' h1
      omega
    · exact h1
  have HF := Lib.hid hW.w32
  have HF' := Lib.hid hW'.w32
  have HV := Lib.hid hV
  have HV' := Lib.hid hV'
  obtain ⟨a, cap, rfl, ⟨hcap, _⟩, hA1, _⟩ := hW
  obtain ⟨a', cap', rfl, ⟨hcap', _⟩, hA2, _⟩ := hW'
  have HA1 := Lib.hid hA1
  have HA2 := Lib.hid hA2
  clear hA1 hA2 hT hT' hV hV' hA
  have b1 : (n : Int) ≤ 100 := by omega
  have b2 : (n' : Int) ≤ (n : Int) := by omega
  go_enter Tryz.func138, Tryz.ntmps138
  go_wp2_with (at_make; refine wpList_make_blk info_u32 (by rfl) _ _ _ (by rfl) (by kernel_rfl) .i64 .i64 _ _ n (by rfl) (by rfl) (by simp) (by simp) (by omega) (by omega) ?_; intro w1 hblk hmk)
  have HI : Hid (SubAt w w1 w.heap.size n n' f f' 0 0) := Lib.hid (.start hblk hmk)
  clear hblk hmk
  go_loopw [6, 7] (fun c i wr => ∃ k : Nat, k ≤ n ∧ i = .int .i64 k ∧ ∃ x : Int, c = .int .u64 x ∧ (0 ≤ x ∧ x ≤ 1) ∧ Hid (SubAt w wr w.heap.size n n' f f' k x)) (fun _ i _ => n - (intOf i).toNat)
  case atStart => exact ⟨0, Nat.zero_le _, rfl, 0, rfl, by omega, HI⟩
  case round =>
    obtain ⟨k, hk, rfl, x, rfl, hx, HI⟩ := hrel
    by_cases hlt : k < n
    · obtain ⟨g, rfl, hC⟩ := HA1.out (by omega)
      have c0 := HI.out.cell (hC k hlt)
      have x0 := HF.out k hlt
      obtain ⟨⟨y0, x1⟩, x2⟩ := HI.out.free k (by omega)
      clear hC
      have k0 : (0 : Int) ≤ (k : Int) := by omega
      have k1 : (k : Int) < (n : Int) := by omega
      by_cases hlt' : k < n'
      · obtain ⟨g', rfl, hC'⟩ := HA2.out (by omega)
        have c1 := HI.out.cell (hC' k hlt')
        have x3 := HF'.out k hlt'
        clear hC'
        have k2 : (k : Int) < (n' : Int) := by omega
        have HE := Lib.hid (ext_in (f := f') hlt')
        have HX := Lib.hid (fun X C h1 h2 => HI.out.step (x := X) (c' := C) hlt (Nat.le_refl _) h1 h2)
        generalize f k = y at *
        generalize f' k = y' at *
        go_wp2
        go_roundw
        case rel =>
          refine ⟨k + 1, by omega, by go_num, _, rfl, ?_, Lib.hid (HX.out _ _ ?_ ?_)⟩
          · rw [IntKind.wrap_u64, IntKind.wrap_u64]; omega
          · omega
          · rw [HE.out, IntKind.wrap_u64, IntKind.wrap_u64]; omega
        case measure => simp [intOf] <;> omega
      · have k2 : (n' : Int) ≤ (k : Int) := by omega
        have HE := Lib.hid (ext_out (f := f') (Nat.le_of_not_lt hlt'))
        have HX := Lib.hid (fun X C h1 h2 => HI.out.step (x := X) (c' := C) hlt (Nat.le_refl _) h1 h2)
        generalize f k = y at *
        go_wp2
        go_roundw
        case rel =>
          refine ⟨k + 1, by omega, by go_num, _, rfl, ?_, Lib.hid (HX.out _ _ ?_ ?_)⟩
          · rw [IntKind.wrap_u64]; omega
          · omega
          · rw [HE.out, IntKind.wrap_u64]; omega
        case measure => simp [intOf] <;> omega
    · obtain rfl : k = n := by omega
      obtain ⟨r, hw, hv, hg⟩ := HI.out.last l2 (by omega) hx (by rw [HV.out, HV'.out]; omega)
      have HW := Lib.hid hw
      have HR := Lib.hid (show V r k = ((A - B : Nat) : Int) by rw [hv, HV.out, HV'.out]; omega)
      have HG := Lib.hid (hg w (Gr.refl _))
      clear hw hv hg
      go_wp2_with (go_at_call 58; refine (trim_any _ HW.out HR.out).mono ?_; rintro e w' ⟨⟨r', rfl, hr⟩, rfl⟩)
      go_ret
      exact ⟨.mk hr, HG.out⟩

theorem Addr.add0 (g i : Nat) : Addr.add ⟨g, 0, none⟩ i = ⟨g, i, none⟩ := by unfold Addr.add; split <;> simp_all

set_option maxRecDepth 100000 in
set_option maxHeartbeats 4000000 in
theorem twin_any {v : Value} {N : Nat} (w : World) (h : Num w v N) :
    Calls Tryz.prog 50 #[v] w fun e w' => Gives N e w' ∧ Gr w w' := by
  obtain ⟨n, f, hW, hT, hV⟩ := h
  have HW := Lib.hid hW
  have HF := Lib.hid hW.w32
  obtain ⟨a, cap, rfl, ⟨hcap, hcap2⟩, hA1, _⟩ := hW
  have HA1 := Lib.hid hA1
  have HT := Lib.hid hT
  have HV := Lib.hid hV
  clear hA1 hT hV
  obtain ⟨i0, hi, hz0, hz1, hz2⟩ := info_parts info_u32
  have HN : Hid (w.ownsRow w.heap.size 182 1 (.slice none 0 0) 0 []) := Lib.hid (World.ownsRow_nil _ _ _ 1)
  rcases Nat.eq_zero_or_pos n with h0 | h0
  · subst h0
    have HZ : Hid (0 = N) := Lib.hid (by have := HV.out; simp [V] at this; omega)
    cases a with
    | none =>
      have := hcap2 rfl
      subst this
      go_enter Tryz.func50, Tryz.ntmps50
      go_wp2_with (at_builtin; refine wpList_append_own_none (by rfl) _ _ _ (by rfl) w.heap.size 182 i0 1 (by kernel_rfl) hi _ 0 [] (by rfl) HN.out (by rfl) ?_)
      go_ret
      exact ⟨.mk (by rw [← HZ.out]; exact Num.zero _), Gr.refl _⟩
    | some ad =>
      go_enter Tryz.func50, Tryz.ntmps50
      go_wp2_with (at_builtin; refine wpList_append_own w (by rfl) _ _ _ (by rfl) w.heap.size 182 i0 (.int .u32 0) 1 4 (by kernel_rfl) hi hz0 hz1 hz2 (by rfl) (by decide) _ 0 [] (by rfl) HN.out ad 0 cap [] (by rfl) (by simp) (fun _ _ h => by simp at h) (fun _ h => by simp at h) (by unfold maxLen; omega) (by omega) (Nat.le_refl _) ?c5)
      case c5 =>
        intro r w1 hown hg hz
        have HG : Hid (Gr w w1) := Lib.hid ((Gr.refl w).grown hg (fun k hk => by cases hk))
        obtain rfl : r = .slice none 0 0 := by simpa using hz
        clear hown hg hz
        go_wp2
        go_ret
        exact ⟨.mk (by rw [← HZ.out]; exact Num.zero _), HG.out⟩
  · obtain ⟨g, rfl, hC⟩ := HA1.out h0
    have HC := Lib.hid hC
    clear hC
    go_enter Tryz.func50, Tryz.ntmps50
    go_wp2_with (at_builtin; refine wpList_append_own w (by rfl) _ _ _ (by rfl) w.heap.size 182 i0 (.int .u32 0) 1 4 (by kernel_rfl) hi hz0 hz1 hz2 (by rfl) (by decide) _ 0 [] (by rfl) HN.out ⟨g, 0, none⟩ n cap ((fnList f n).map (Value.int .u32)) (by rfl) (by simp [fnList_len]) ?c1 ?c2 (by unfold maxLen; omega) (by omega) (Nat.le_refl _) ?c5)
    case c1 =>
      intro j u hj
      rw [Addr.add0]
      rcases Nat.lt_or_ge j n with h1 | h1
      · simp [fnList, h1] at hj
        subst hj
        exact HC.out _ h1
      · rw [List.getElem?_eq_none (by simp [fnList_len]; omega)] at hj
        cases hj
    case c2 => intro u hu; simp at hu; obtain ⟨x, _, rfl⟩ := hu; rfl
    case c5 =>
      intro r w1 hown hg _
      have HO := Lib.hid hown
      have HG : Hid (Gr w w1) := Lib.hid ((Gr.refl w).grown hg (fun k hk => by cases hk))
      clear hown hg
      go_wp2
      go_ret
      refine ⟨.mk ⟨n, f, ?_, HT.out, HV.out⟩, HG.out⟩
      have hO := HO.out
      obtain ⟨_, h2⟩ := HO.out
      rcases h2 with ⟨_, h2⟩ | ⟨g', cap', cur, rfl, _, _, h4, h5, _⟩
      · omega
      · refine ⟨_, _, rfl, ⟨⟨h4, by omega, by unfold maxLen at h5; omega⟩, fun e => by cases e⟩, fun _ => ⟨g', rfl, fun i hi => ?_⟩, HF.out⟩
        have hc := World.ownsRow.cells (w := w1) hO (g := g') rfl i (.int .u32 (f i)) (by simp [fnList, hi])
        rw [Addr.add0] at hc
        exact hc

theorem V_two (x : Nat) (hx : x < 18446744073709551616) : W32 (fun i => if i = 0 then (x : Int) % 4294967296 else (x : Int) / 4294967296) 2 ∧ V (fun i => if i = 0 then (x : Int) % 4294967296 else (x : Int) / 4294967296) 2 = (x : Int) := by
  refine ⟨fun i _ => ?_, ?_⟩
  · show 0 ≤ (if i = 0 then (x : Int) % 4294967296 else (x : Int) / 4294967296) ∧ (if i = 0 then (x : Int) % 4294967296 else (x : Int) / 4294967296) < 4294967296
    split <;> omega
  · simp [V, Bp]
    omega

set_option maxRecDepth 100000 in
set_option maxHeartbeats 4000000 in
theorem words_any (x : Nat) (w : World) (hx : x < 18446744073709551616) :
    Calls Tryz.prog 54 #[.int .u64 (x : Int)] w fun e w' => Gives x e w' ∧ Gr w w' := by
  have hx' : (x : Int) < 18446744073709551616 := by omega
  have HX := Lib.hid (V_two x hx)
  have HG : Hid (Gr w (w.alloc (.cells #[.int .u32 ((x : Int) % 4294967296), .int .u32 ((x : Int) / 4294967296)] 182))) := Lib.hid ((Gr.refl w).alloc _)
  have HW : Hid (Wds (w.alloc (.cells #[.int .u32 ((x : Int) % 4294967296), .int .u32 ((x : Int) / 4294967296)] 182)) (.slice (some ⟨w.heap.size, 0, none⟩) 2 2) 2 (fun i => if i = 0 then (x : Int) % 4294967296 else (x : Int) / 4294967296)) :=
    Lib.hid ⟨_, _, rfl, ⟨by omega, fun e => by cases e⟩, fun _ => ⟨_, rfl, fun i hi => by
      have hh : i = 0 ∨ i = 1 := by omega
      rcases hh with rfl | rfl <;> simp⟩, HX.out.1⟩
  clear hx
  go_enter Tryz.func54, Tryz.ntmps54
  go_wp2_with (go_at_call 58; refine (trim_any _ HW.out HX.out.2).mono ?_; rintro e w' ⟨⟨r', rfl, hr⟩, rfl⟩)
  go_ret
  exact ⟨.mk hr, HG.out⟩

theorem or_low {x y : Int} (hx : 0 ≤ x ∧ x < 4294967296) (hy : 0 ≤ y ∧ y < 4294967296) : bits BinOp.or IntKind.u64 (y * 4294967296) x = x + y * 4294967296 := by
  rw [← or_word hx hy]
  obtain ⟨a, rfl⟩ := Int.eq_ofNat_of_zero_le hx.1
  obtain ⟨b, rfl⟩ := Int.eq_ofNat_of_zero_le hy.1
  rw [show ((b : Int) * 4294967296) = ((b * 4294967296 : Nat) : Int) by omega, u64_or_nat _ _ (by omega) (by omega), u64_or_nat _ _ (by omega) (by omega), Nat.or_comm]

/-- Division by one word, with k words still to come. -/
def SmallAt (w0 w : World) (g n : Nat) (f : Nat → Int) (d : Int) (k : Nat) (x : Int) : Prop :=
  ∃ r, Blk .u32 182 w g n r ∧ W32 r n ∧ (∀ j, j < k → r j = 0) ∧ V r n * d + x * Bp k + V f k = V f n ∧ ∀ u, Gr u w0 → Gr u w
theorem SmallAt.start {w0 w : World} {g n : Nat} {f : Nat → Int} {d : Int} (hb : Blk .u32 182 w g n fun _ => 0) (hg : ∀ u, Gr u w0 → Gr u w) : SmallAt w0 w g n f d n 0 :=
  ⟨_, hb, fun _ _ => ⟨Int.le_refl _, by show (0 : Int) < _; omega⟩, fun _ _ => rfl, by rw [V_zeros (Nat.zero_le _) fun _ _ _ => rfl]; simp [V], hg⟩
theorem SmallAt.step {w0 w : World} {g n : Nat} {f : Nat → Int} {d x z : Int} {k : Nat} (h : SmallAt w0 w g n f d (k + 1) x) (hk : k < n) (hg : w0.heap.size ≤ g) (hx : 0 ≤ x ∧ x < d) (hf : 0 ≤ f k ∧ f k < 4294967296) (hz : z = f k + x * 4294967296) :
    SmallAt w0 (w.setCell ⟨g, k, none⟩ (.int .u32 (z / d))) g n f d k (z % d) := by
  obtain ⟨r, h1, h2, h3, h4, h5⟩ := h
  have hz' : z = x * 4294967296 + f k := by omega
  refine ⟨upd r k (z / d), h1.set _ _, h2.upd (by rw [hz']; exact small_word hx hf), fun j hj => ?_, ?_, fun u hu => (h5 u hu).setCell (by have := hu.size; simp; omega) _⟩
  · rw [upd_ne _ _ (by omega)]; exact h3 j (by omega)
  · have e1 : V f (k + 1) = V f k + f k * Bp k := rfl
    rw [Bp, e1] at h4
    have e2 := small_step (s := V r n * d) (r := x) (a := f k) (d := d) (p := Bp k) hz'
    rw [V_upd (by omega), h3 k (by omega), Int.sub_zero]
    generalize Bp k = p at *
    generalize z / d = q at *
    generalize z % d = m at *
    grind
theorem SmallAt.cell {w0 w : World} {g n : Nat} {f : Nat → Int} {d : Int} {k : Nat} {x : Int} (h : SmallAt w0 w g n f d k x) {p : Addr} {v : Value} (hp : w0.cell? p = some v) : w.cell? p = some v := by
  obtain ⟨r, _, _, _, _, h5⟩ := h
  exact (h5 w0 (Gr.refl _)).cell hp
theorem SmallAt.free {w0 w : World} {g n : Nat} {f : Nat → Int} {d : Int} {k : Nat} {x : Int} (h : SmallAt w0 w g n f d k x) (j : Nat) (hj : j < n) : (∃ x, w.cell? ⟨g, j, none⟩ = some (.int .u32 x)) ∧ w.frozen? ⟨g, j, none⟩ = false := by
  obtain ⟨r, h1, _⟩ := h
  exact ⟨⟨_, h1.cell hj⟩, h1.free j⟩
theorem SmallAt.last {w0 w : World} {g n : Nat} {f : Nat → Int} {d : Int} {x : Int} {A D : Nat} (h : SmallAt w0 w g n f d 0 x) (hb : n ≤ 100) (hd : d = (D : Int)) (hx : 0 ≤ x ∧ x < d) (hA : V f n = (A : Int)) :
    ∃ r, Wds w (.slice (some ⟨g, 0, none⟩) n n) n r ∧ V r n = ((A / D : Nat) : Int) ∧ x = ((A % D : Nat) : Int) ∧ ∀ u, Gr u w0 → Gr u w := by
  obtain ⟨r, h1, h2, h3, h4, h5⟩ := h
  have h6 := (V_in h2).1
  rw [show Bp 0 = 1 from rfl, show V f 0 = 0 from rfl, hA, hd] at h4
  rw [hd] at hx
  obtain ⟨q, hq⟩ := Int.eq_ofNat_of_zero_le h6
  obtain ⟨y, rfl⟩ := Int.eq_ofNat_of_zero_le hx.1
  rw [hq] at h4
  have e : q * D + y = A := by
    have : ((q * D + y : Nat) : Int) = (A : Int) := by simp; omega
    omega
  have e2 : A / D = q ∧ A % D = y := by
    have hy : y < D := by omega
    subst e
    constructor
    · rw [Nat.mul_comm, Nat.mul_add_div (by omega), Nat.div_eq_of_lt hy, Nat.add_zero]
    · rw [Nat.mul_comm, Nat.mul_add_mod, Nat.mod_eq_of_lt hy]
  exact ⟨r, h1.wds (by omega) h2, by rw [hq, e2.1], by rw [e2.2], h5⟩

set_option maxRecDepth 100000 in
set_option maxHeartbeats 4000000 in
theorem small_any {v : Value} {A D : Nat} (w : World) (h : Num w v A) (hA : (A : Int) < Bp 40) (hD : 0 < D) (hD' : D < 4294967296) :
    Calls Tryz.prog 57 #[v, .int .u32 (D : Int)] w fun e w' => (∃ r, e = .returned (.tuple #[r, .int .u32 ((A % D : Nat) : Int)]) ∧ Num w' r (A / D)) ∧ Gr w w' := by
  obtain ⟨n, f, hW, hT, hV⟩ := h
  have l1 := len_of_lt hW.w32 hT (by rw [hV]; exact hA)
  have HF := Lib.hid hW.w32
  have HV := Lib.hid hV
  obtain ⟨a, cap, rfl, ⟨hcap, _⟩, hA1, _⟩ := hW
  have HA1 := Lib.hid hA1
  clear hA1 hT hV hA
  have b1 : (n : Int) ≤ 100 := by omega
  have d0 : (0 : Int) < (D : Int) := by omega
  have d1 : (D : Int) < 4294967296 := by omega
  have HD : Hid ((D : Int) = (D : Int)) := Lib.hid rfl
  generalize hd : (D : Int) = d at HD d0 d1
  have HDD := Lib.hid hd
  clear hd HD
  have d2 : (d == 0) = false := by simp; omega
  go_enter Tryz.func57, Tryz.ntmps57
  go_wp2_with (at_make; refine wpList_make_blk info_u32 (by rfl) _ _ _ (by rfl) (by kernel_rfl) .i64 .i64 _ _ n (by rfl) (by rfl) (by simp) (by simp) (by omega) (by omega) ?_; intro w1 hblk hmk)
  have HI : Hid (SmallAt w w1 w.heap.size n f d n 0) := Lib.hid (.start hblk hmk)
  clear hblk hmk
  go_loopw [7, 8] (fun c i wr => ∃ k : Nat, k ≤ n ∧ i = .int .i64 ((k : Int) - 1) ∧ ∃ x : Int, c = .int .u64 x ∧ (0 ≤ x ∧ x < d) ∧ Hid (SmallAt w wr w.heap.size n f d k x)) (fun _ i _ => (intOf i + 1).toNat)
  case atStart => exact ⟨n, Nat.le_refl _, rfl, 0, rfl, by omega, HI⟩
  case round =>
    obtain ⟨k', hk, rfl, x, rfl, hx, HI⟩ := hrel
    rcases Nat.eq_zero_or_pos k' with h0 | h0
    · subst h0
      obtain ⟨r, hw, hv, hm, hg⟩ := HI.out.last (by omega) HDD.out.symm hx HV.out
      have HW := Lib.hid hw
      have HR := Lib.hid hv
      have HM := Lib.hid hm
      have HG := Lib.hid (hg w (Gr.refl _))
      clear hw hv hg hm
      have hxx : x % 4294967296 = x := by omega
      go_wp2_with (go_at_call 58; refine (trim_any _ HW.out HR.out).mono ?_; rintro e w' ⟨⟨r', rfl, hr⟩, rfl⟩)
      go_ret2
      exact ⟨⟨r', by rw [← HM.out]; rfl, hr⟩, HG.out⟩
    · obtain ⟨k, rfl⟩ : ∃ k, k' = k + 1 := ⟨k' - 1, by omega⟩
      obtain ⟨g, rfl, hC⟩ := HA1.out (by omega)
      have c0 := HI.out.cell (hC k (by omega))
      have x0 := HF.out k (by omega)
      obtain ⟨⟨y0, x1⟩, x2⟩ := HI.out.free k (by omega)
      clear hC
      have e1 : ((k + 1 : Nat) : Int) - 1 = (k : Int) := by omega
      rw [e1]
      clear e1
      have k0 : (0 : Int) ≤ (k : Int) := by omega
      have k1 : (k : Int) < (n : Int) := by omega
      have HO := Lib.hid (or_low x0 (y := x) (by omega))
      have HX := Lib.hid (fun z hz => HI.out.step (z := z) (by omega) (Nat.le_refl _) hx x0 hz)
      have HSW := Lib.hid (small_word hx x0)
      generalize f k = y at *
      generalize hz : bits BinOp.or IntKind.u64 (x * 4294967296) y = z at HO
      have HX2 := Lib.hid (HX.out z HO.out)
      have z0 : 0 ≤ z := by rw [HO.out]; omega
      have z1 : z < 18446744073709551616 := by rw [HO.out]; omega
      have z2 : 0 ≤ z / d ∧ z / d < 4294967296 := by have := HSW.out; rw [show x * 4294967296 + y = z by rw [HO.out]; omega] at this; exact this
      have z3 : 0 ≤ z % d ∧ z % d < d := ⟨Int.emod_nonneg _ (by omega), Int.emod_lt_of_pos _ d0⟩
      clear HX HSW
      go_wp2
      go_roundw
      case rel => exact ⟨k, by omega, rfl, _, rfl, z3, HX2⟩
      case measure => simp [intOf] <;> omega

/-- A product behind i words of f, and j words of the row of word i. -/
def MulAt (w0 w : World) (g n n' : Nat) (f f' : Nat → Int) (i j : Nat) (c : Int) : Prop :=
  ∃ r, Blk .u32 182 w g (n + n') r ∧ W32 r (n + n') ∧ (∀ k, i + n' ≤ k → r k = 0) ∧ V r (n + n') + c * Bp (i + j) = V f i * V f' n' + f i * V f' j * Bp i ∧ ∀ u, Gr u w0 → Gr u w
theorem MulAt.start {w0 w : World} {g n n' : Nat} {f f' : Nat → Int} (hb : Blk .u32 182 w g (n + n') fun _ => 0) (hg : ∀ u, Gr u w0 → Gr u w) : MulAt w0 w g n n' f f' 0 0 0 :=
  ⟨_, hb, fun _ _ => ⟨Int.le_refl _, by show (0 : Int) < _; omega⟩, fun _ _ => rfl, by rw [V_zeros (Nat.zero_le _) fun _ _ _ => rfl]; simp [V], hg⟩
theorem MulAt.cell {w0 w : World} {g n n' : Nat} {f f' : Nat → Int} {i j : Nat} {c : Int} (h : MulAt w0 w g n n' f f' i j c) {p : Addr} {v : Value} (hp : w0.cell? p = some v) : w.cell? p = some v := by
  obtain ⟨r, _, _, _, _, h5⟩ := h
  exact (h5 w0 (Gr.refl _)).cell hp
theorem MulAt.drewN {w0 w : World} {g n n' : Nat} {f f' : Nat → Int} {i j : Nat} {c : Int} (h : MulAt w0 w g n n' f f' i j c) (q : Nat) : MulAt w0 (w.drewN q) g n n' f f' i j c := by
  obtain ⟨r, h1, h2, h3, h4, h5⟩ := h
  exact ⟨r, h1.drewN q, h2, h3, h4, fun u hu => (h5 u hu).drewN q⟩
theorem MulAt.free {w0 w : World} {g n n' : Nat} {f f' : Nat → Int} {i j : Nat} {c : Int} (h : MulAt w0 w g n n' f f' i j c) (k : Nat) (hk : k < n + n') : (∃ x, w.cell? ⟨g, k, none⟩ = some (.int .u32 x) ∧ (0 ≤ x ∧ x < 4294967296)) ∧ w.frozen? ⟨g, k, none⟩ = false := by
  obtain ⟨r, h1, h2, _⟩ := h
  exact ⟨⟨_, h1.cell hk, h2 k hk⟩, h1.free k⟩
theorem MulAt.step {w0 w : World} {g n n' : Nat} {f f' : Nat → Int} {i j : Nat} {c z y : Int} (h : MulAt w0 w g n n' f f' i j c) (hi : i < n) (hj : j < n') (hg : w0.heap.size ≤ g) (hy : w.cell? ⟨g, i + j, none⟩ = some (.int .u32 y)) (hz : z = c + f i * f' j + y) :
    MulAt w0 (w.setCell ⟨g, i + j, none⟩ (.int .u32 (z % 4294967296))) g n n' f f' i (j + 1) (z / 4294967296) := by
  obtain ⟨r, h1, h2, h3, h4, h5⟩ := h
  have e0 : r (i + j) = y := by
    rw [h1.cell (show i + j < n + n' by omega)] at hy
    simpa using hy
  refine ⟨upd r (i + j) (z % 4294967296), h1.set _ _, h2.upd (by omega), fun k hk => ?_, ?_, fun u hu => (h5 u hu).setCell (by have := hu.size; simp; omega) _⟩
  · rw [upd_ne _ _ (by omega)]; exact h3 k hk
  · have e1 : V f' (j + 1) = V f' j + f' j * Bp j := rfl
    have e2 := mul_step (s := V r (n + n')) (c := c) (a := f i) (b := f' j) (r := y) (p := Bp (i + j)) hz
    rw [V_upd (by omega), e0, ← Nat.add_assoc, Bp, e2, e1, h4, Bp_add]
    grind
theorem MulAt.row {w0 w : World} {g n n' : Nat} {f f' : Nat → Int} {i : Nat} {c : Int} (h : MulAt w0 w g n n' f f' i n' c) (hi : i < n) (hg : w0.heap.size ≤ g) (hc : 0 ≤ c ∧ c < 4294967296) :
    MulAt w0 (w.setCell ⟨g, i + n', none⟩ (.int .u32 c)) g n n' f f' (i + 1) 0 0 := by
  obtain ⟨r, h1, h2, h3, h4, h5⟩ := h
  refine ⟨upd r (i + n') c, h1.set _ _, h2.upd hc, fun k hk => ?_, ?_, fun u hu => (h5 u hu).setCell (by have := hu.size; simp; omega) _⟩
  · rw [upd_ne _ _ (by omega)]; exact h3 k (by omega)
  · have e1 : V f (i + 1) = V f i + f i * Bp i := rfl
    rw [V_upd (by omega), h3 _ (Nat.le_refl _), Int.sub_zero, h4, e1]
    simp only [V]
    grind
theorem MulAt.last {w0 w : World} {g n n' : Nat} {f f' : Nat → Int} (h : MulAt w0 w g n n' f f' n 0 0) (hb : n + n' ≤ 1000) :
    ∃ r, Wds w (.slice (some ⟨g, 0, none⟩) (n + n') (n + n')) (n + n') r ∧ V r (n + n') = V f n * V f' n' ∧ ∀ u, Gr u w0 → Gr u w := by
  obtain ⟨r, h1, h2, h3, h4, h5⟩ := h
  exact ⟨r, h1.wds (by omega) h2, by rw [show V f' 0 = 0 from rfl] at h4; omega, h5⟩

set_option maxRecDepth 100000 in
set_option maxHeartbeats 4000000 in
theorem mul_any {v v' : Value} {A B : Nat} (w : World) (h : Num w v A) (h' : Num w v' B) (hA : (A : Int) < Bp 40) (hB : (B : Int) < Bp 40) :
    Calls Tryz.prog 126 #[v, v'] w fun e w' => Gives (A * B) e w' ∧ Gr w w' := by
  obtain ⟨n, f, hW, hT, hV⟩ := h
  obtain ⟨n', f', hW', hT', hV'⟩ := h'
  have l1 := len_of_lt hW.w32 hT (by rw [hV]; exact hA)
  have l2 := len_of_lt hW'.w32 hT' (by rw [hV']; exact hB)
  have HF := Lib.hid hW.w32
  have HF' := Lib.hid hW'.w32
  have HV := Lib.hid hV
  have HV' := Lib.hid hV'
  obtain ⟨a, cap, rfl, ⟨hcap, _⟩, hA1, _⟩ := hW
  obtain ⟨a', cap', rfl, ⟨hcap', _⟩, hA2, _⟩ := hW'
  have HA1 := Lib.hid hA1
  have HA2 := Lib.hid hA2
  clear hA1 hA2 hT hT' hV hV' hA hB
  have b1 : (n : Int) ≤ 40 := by omega
  have b2 : (n' : Int) ≤ 40 := by omega
  by_cases h0 : n = 0
  · subst h0
    have HZ : Hid (0 = A * B) := Lib.hid (by have := HV.out; simp [V] at this; rw [show A = 0 by omega]; simp)
    go_enter Tryz.func126, Tryz.ntmps126
    go_wp2
    go_ret
    exact ⟨.mk (by rw [← HZ.out]; exact Num.zero _), Gr.refl _⟩
  by_cases h0' : n' = 0
  · subst h0'
    have HZ : Hid (0 = A * B) := Lib.hid (by have := HV'.out; simp [V] at this; rw [show B = 0 by omega]; simp)
    have hn : ((n : Int) == 0) = false := by simp; omega
    go_enter Tryz.func126, Tryz.ntmps126
    go_wp2
    go_ret
    exact ⟨.mk (by rw [← HZ.out]; exact Num.zero _), Gr.refl _⟩
  have hn : ((n : Int) == 0) = false := by simp; omega
  have hn' : ((n' : Int) == 0) = false := by simp; omega
  obtain ⟨g, rfl, hC⟩ := HA1.out (by omega)
  obtain ⟨g', rfl, hC'⟩ := HA2.out (by omega)
  have HC := Lib.hid hC
  have HC' := Lib.hid hC'
  clear hC hC'
  go_enter Tryz.func126, Tryz.ntmps126
  go_wp2_with (at_make; refine wpList_make_blk info_u32 (by rfl) _ _ _ (by rfl) (by kernel_rfl) .i64 .i64 _ _ (n + n') (by rfl) (by rfl) (by simp) (by simp) (by omega) (by omega) ?_; intro w1 hblk hmk)
  have HI : Hid (MulAt w w1 w.heap.size n n' f f' 0 0 0) := Lib.hid (.start hblk hmk)
  clear hblk hmk
  go_loopw [6, 7, 8] (fun i _ _ wr => ∃ k : Nat, k ≤ n ∧ i = .int .i64 k ∧ Hid (MulAt w wr w.heap.size n n' f f' k 0 0)) (fun i _ _ _ => n - (intOf i).toNat)
  case atStart => exact ⟨0, Nat.zero_le _, rfl, HI⟩
  case round =>
    obtain ⟨i, hi, rfl, HO⟩ := hrel
    by_cases hlt : i < n
    · have c0 := HC.out i hlt
      have x0 := HF.out i hlt
      have i0 : (0 : Int) ≤ (i : Int) := by omega
      have i1 : (i : Int) < (n : Int) := by omega
      obtain ⟨wo, hwo⟩ : ∃ wo, wo = wr := ⟨_, rfl⟩
      rw [← hwo]
      rw [← hwo] at HO
      clear hwo
      go_wp2
      go_loopw [7, 8] (fun c i' wr => ∃ j : Nat, j ≤ n' ∧ i' = .int .i64 j ∧ ∃ x : Int, c = .int .u64 x ∧ (0 ≤ x ∧ x < 4294967296) ∧ Hid (MulAt w wr w.heap.size n n' f f' i j x)) (fun _ i' _ => n' - (intOf i').toNat)
      case atStart => exact ⟨0, Nat.zero_le _, rfl, 0, rfl, by omega, HO⟩
      case round =>
        obtain ⟨j, hj, rfl, x, rfl, hx, HI⟩ := hrel
        by_cases hlt' : j < n'
        · have d0 := HI.out.cell c0
          have d1 := HI.out.cell (HC'.out j hlt')
          have x1 := HF'.out j hlt'
          obtain ⟨⟨y, d2, x2⟩, d3⟩ := HI.out.free (i + j) (by omega)
          have hp := mul_word x0 x1
          have HX := Lib.hid (fun q z hz => (HI.out.drewN q).step (z := z) hlt hlt' (Nat.le_refl _) (show (wr.drewN q).cell? _ = _ from d2) hz)
          generalize f' j = b at *
          generalize f i = a at *
          generalize hab : a * b = p at *
          have k0 : (0 : Int) ≤ (j : Int) := by omega
          have k1 : (j : Int) < (n' : Int) := by omega
          have HXX := Lib.hid (fun q => HX.out q (x + (p + y)) (by omega))
          clear HX
          have s1 : IntKind.i64.wrap ((i : Int) + (j : Int)) = (i : Int) + (j : Int) := IntWalk.i64_in _ (by omega)
          have s2 : ((i : Int) + (j : Int)).toNat = i + j := by omega
          have s3 : (0 : Int) ≤ (i : Int) + (j : Int) := by omega
          have s4 : IntKind.u64.wrap p = p := by rw [IntKind.wrap_u64]; omega
          have s5 : IntKind.u64.wrap (p + y) = p + y := by rw [IntKind.wrap_u64]; omega
          have s6 : IntKind.u64.wrap (x + (p + y)) = x + (p + y) := by rw [IntKind.wrap_u64]; omega
          go_wp2
          go_quiet (fail)
          go_wp2
          go_roundw
          case rel => exact ⟨j + 1, by omega, by go_num, _, rfl, by omega, HXX.out _⟩
          case measure => simp [intOf] <;> omega
        · obtain rfl : j = n' := by omega
          obtain ⟨⟨y, d2, _⟩, d3⟩ := HI.out.free (i + j) (by omega)
          have HX := Lib.hid (HI.out.row hlt (Nat.le_refl _) hx)
          have hxx : x % 4294967296 = x := by omega
          go_wp2
          go_roundw
          case rel => exact ⟨i + 1, by omega, by go_num, HX⟩
          case measure => simp [intOf] <;> omega
    · obtain rfl : i = n := by omega
      obtain ⟨r, hw, hv, hg⟩ := HO.out.last (by omega)
      have HW := Lib.hid hw
      have HR := Lib.hid (show V r (i + n') = ((A * B : Nat) : Int) by rw [hv, HV.out, HV'.out]; simp)
      have HG := Lib.hid (hg w (Gr.refl _))
      clear hw hv hg
      go_wp2_with (go_at_call 58; refine (trim_any _ HW.out HR.out).mono ?_; rintro e w' ⟨⟨r', rfl, hr⟩, rfl⟩)
      go_ret
      exact ⟨.mk hr, HG.out⟩
end Go.Proofs.YtgifghbnpdanhaaGreatDoor

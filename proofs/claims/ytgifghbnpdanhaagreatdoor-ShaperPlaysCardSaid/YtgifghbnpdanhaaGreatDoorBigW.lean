/-
  millracebig's words: length, left, right (shifts by less than a word).
-/
import Derived.Test.YtgifghbnpdanhaaGreatDoorBigI
namespace Go.Proofs.YtgifghbnpdanhaaGreatDoor
open Go.RowKit

/-- 2 to so many. -/
def P2 : Nat → Int
  | 0 => 1
  | k + 1 => 2 * P2 k
theorem P2_pos (k : Nat) : 1 ≤ P2 k := by
  induction k with
  | zero => simp [P2]
  | succ k ih => rw [P2]; omega
theorem P2_add (j k : Nat) : P2 (j + k) = P2 j * P2 k := by
  induction k with
  | zero => simp [P2]
  | succ k ih => rw [Nat.add_succ, P2, P2, ih, Int.mul_left_comm]
theorem P2_nat (k : Nat) : P2 k = ((2 ^ k : Nat) : Int) := by
  induction k with
  | zero => rfl
  | succ k ih => rw [P2, ih, Nat.pow_succ, Nat.mul_comm, Int.natCast_mul]; rfl
theorem P2_32 : P2 32 = 4294967296 := by decide
theorem P2_31 : P2 31 = 2147483648 := by decide

set_option maxRecDepth 100000 in
set_option maxHeartbeats 4000000 in
theorem length_top {a : Option Addr} {n cap : Nat} {f : Nat → Int} (w : World) (h : Wds w (.slice a n cap) n f) (h0 : 0 < n) (ht : 0 < f (n - 1)) (hb : n ≤ 100) :
    Calls Tryz.prog 59 #[.slice a n cap] w fun e w' => (∃ L : Nat, e = .returned (.int .i64 (((n : Int) - 1) * 32 + (L : Int))) ∧ L ≤ 32 ∧ f (n - 1) / P2 L = 0 ∧ (0 < L → 0 < f (n - 1) / P2 (L - 1))) ∧ w = w' := by
  have HW := Lib.hid h
  have hf := h.w32 (n - 1) (by omega)
  obtain ⟨_, _, h2, _, h3, _⟩ := h
  simp at h2
  obtain ⟨rfl, rfl⟩ := h2
  obtain ⟨g, rfl, hC⟩ := h3 h0
  have c0 := hC (n - 1) (by omega)
  obtain ⟨m, rfl⟩ : ∃ m, n = m + 1 := ⟨n - 1, by omega⟩
  rw [Nat.add_sub_cancel] at *
  clear hC h3
  generalize f m = x at *
  have b1 : (m : Int) ≤ 100 := by omega
  have b2 : (0 : Int) ≤ (m : Int) := by omega
  have b3 : (((m + 1 : Nat) : Int) == 0) = false := by simp; omega
  have e1 : ((m + 1 : Nat) : Int) - 1 = (m : Int) := by omega
  go_enter Tryz.func59, Tryz.ntmps59
  go_wp2
  go_loop [3, 4] (fun c y => ∃ k : Nat, k ≤ 32 ∧ c = .int .i64 k ∧ y = .int .u32 (x / P2 k) ∧ Hid (0 < k → 0 < x / P2 (k - 1))) (fun _ y => (intOf y).toNat)
  case atStart => exact ⟨0, by omega, rfl, by simp [P2], fun h => absurd h (by omega)⟩
  case round =>
    obtain ⟨k, hk, rfl, rfl, HP⟩ := hrel
    have hy0 : 0 ≤ x / P2 k := Int.ediv_nonneg (by omega) (by have := P2_pos k; omega)
    have hy1 : x / P2 k < 4294967296 := by
      have := Int.ediv_le_self (P2 k) hf.1; omega
    have HS : Hid (x / P2 (k + 1) = x / P2 k / 2) := Lib.hid (by
      rw [P2, Int.mul_comm, Int.ediv_ediv_of_nonneg (by have := P2_pos k; omega)])
    have HK : Hid (0 < x / P2 k → k < 32) := Lib.hid (fun h => by
      rcases Nat.lt_or_ge k 32 with h1 | h1
      · exact h1
      · exfalso
        obtain rfl : k = 32 := by omega
        rw [P2_32] at h
        omega)
    by_cases hy : 0 < x / P2 k
    · have hk2 := HK.out hy
      have HP2 : Hid (0 < k + 1 → 0 < x / P2 (k + 1 - 1)) := Lib.hid (fun _ => hy)
      generalize x / P2 k = y at *
      have hyb : (y == 0) = false := by simp; omega
      go_wp2
      go_round
      case rel => exact ⟨k + 1, by omega, by go_num, by rw [HS.out], HP2⟩
      case measure => simp [intOf] <;> omega
    · have HZ : Hid (x / P2 k = 0) := Lib.hid (by omega)
      have hz : x / P2 k = 0 := HZ.out
      go_wp2
      go_ret
      exact ⟨⟨k, rfl, hk, HZ.out, HP.out⟩, rfl⟩

/-- x with a multiple of 2^s or'd in, that has no bit of x. -/
theorem or32_add {x m : Int} {s : Nat} (hx : 0 ≤ x ∧ x < P2 s) (hm : 0 ≤ m) (hs : s ≤ 32) (hb : m * P2 s < 4294967296) : bits BinOp.or IntKind.u32 x (m * P2 s) = x + m * P2 s := by
  obtain ⟨a, rfl⟩ := Int.eq_ofNat_of_zero_le hx.1
  obtain ⟨b, rfl⟩ := Int.eq_ofNat_of_zero_le hm
  have hp : P2 s ≤ 4294967296 := by
    have h1 : P2 32 = P2 s * P2 (32 - s) := by rw [← P2_add]; congr 1; omega
    rw [P2_32] at h1
    have h2 := P2_pos (32 - s)
    have h3 := P2_pos s
    have h4 : P2 s * 1 ≤ P2 s * P2 (32 - s) := Int.mul_le_mul_of_nonneg_left (by omega) (by omega)
    omega
  rw [P2_nat] at *
  rw [← Int.natCast_mul] at *
  rw [u32_or_nat _ _ (by omega) (by omega), Nat.or_comm, ← Nat.shiftLeft_eq, ← Nat.shiftLeft_add_eq_or_of_lt (by omega), Nat.shiftLeft_eq]
  omega
theorem shl_mod {x : Int} {s : Nat} (hs : s ≤ 32) : (x * P2 s) % 4294967296 = (x % P2 (32 - s)) * P2 s := by
  have h1 : (4294967296 : Int) = P2 (32 - s) * P2 s := by rw [← P2_add, ← P2_32]; congr 1; omega
  rw [h1, Int.mul_comm x, Int.mul_comm (P2 (32 - s)) (P2 s), Int.mul_emod_mul_of_pos _ _ (by have := P2_pos s; omega), Int.mul_comm]

/-- A shift's state behind k words. -/
def LeftAt (w0 w : World) (g n : Nat) (f : Nat → Int) (s k : Nat) : Prop :=
  ∃ r, Blk .u32 182 w g (n + 1) r ∧ W32 r (n + 1) ∧ r k < P2 s ∧ (∀ j, k < j → r j = 0) ∧ V r (n + 1) = V f k * P2 s ∧ ∀ u, Gr u w0 → Gr u w
theorem LeftAt.start {w0 w : World} {g n : Nat} {f : Nat → Int} {s : Nat} (hb : Blk .u32 182 w g (n + 1) fun _ => 0) (hg : ∀ u, Gr u w0 → Gr u w) : LeftAt w0 w g n f s 0 :=
  ⟨_, hb, fun _ _ => ⟨Int.le_refl _, by show (0 : Int) < _; omega⟩, by have := P2_pos s; show (0 : Int) < _; omega, fun _ _ => rfl, by rw [V_zeros (Nat.zero_le _) fun _ _ _ => rfl]; simp [V], hg⟩
theorem LeftAt.cell {w0 w : World} {g n : Nat} {f : Nat → Int} {s k : Nat} (h : LeftAt w0 w g n f s k) {p : Addr} {v : Value} (hp : w0.cell? p = some v) : w.cell? p = some v := by
  obtain ⟨r, _, _, _, _, _, h5⟩ := h
  exact (h5 w0 (Gr.refl _)).cell hp
theorem LeftAt.now {w0 w : World} {g n : Nat} {f : Nat → Int} {s k : Nat} (h : LeftAt w0 w g n f s k) (hk : k < n) : ∃ y, w.cell? ⟨g, k, none⟩ = some (.int .u32 y) ∧ (0 ≤ y ∧ y < P2 s) ∧ w.cell? ⟨g, k + 1, none⟩ = some (.int .u32 0) ∧ w.frozen? ⟨g, k, none⟩ = false ∧ w.frozen? ⟨g, k + 1, none⟩ = false := by
  obtain ⟨r, h1, h2, h3, h4, _⟩ := h
  refine ⟨r k, h1.cell (by omega), ⟨(h2 k (by omega)).1, h3⟩, ?_, h1.free _, h1.free _⟩
  rw [h1.cell (show k + 1 < n + 1 by omega), h4 (k + 1) (by omega)]
theorem LeftAt.step {w0 w : World} {g n : Nat} {f : Nat → Int} {s k : Nat} {y z : Int} (h : LeftAt w0 w g n f s k) (hk : k < n) (hg : w0.heap.size ≤ g) (hf : 0 ≤ f k ∧ f k < 4294967296) (hs : s ≤ 32) (hy : w.cell? ⟨g, k, none⟩ = some (.int .u32 y)) (hz : z = f k * P2 s) :
    LeftAt w0 ((w.setCell ⟨g, k, none⟩ (.int .u32 (y + z % 4294967296))).setCell ⟨g, k + 1, none⟩ (.int .u32 (z / 4294967296))) g n f s (k + 1) := by
  obtain ⟨r, h1, h2, h3, h4, h5, h6⟩ := h
  have e0 : r k = y := by
    rw [h1.cell (show k < n + 1 by omega)] at hy
    simpa using hy
  have hp := P2_pos s
  have hz0 : 0 ≤ z := by rw [hz]; exact Int.mul_nonneg hf.1 (by omega)
  have hzh : z / 4294967296 < P2 s := by
    refine Int.ediv_lt_of_lt_mul (by omega) ?_
    rw [hz, Int.mul_comm (P2 s)]
    exact Int.mul_lt_mul_of_pos_right hf.2 (by omega)
  have hp32 : P2 s * P2 (32 - s) = 4294967296 := by rw [← P2_add, ← P2_32]; congr 1; omega
  have hzl : z % 4294967296 + P2 s ≤ 4294967296 := by
    rw [hz, shl_mod hs]
    have h7 : f k % P2 (32 - s) + 1 ≤ P2 (32 - s) := by have := Int.emod_lt_of_pos (f k) (show 0 < P2 (32 - s) by have := P2_pos (32 - s); omega); omega
    have h8 : (f k % P2 (32 - s) + 1) * P2 s ≤ P2 (32 - s) * P2 s := Int.mul_le_mul_of_nonneg_right h7 (by omega)
    rw [Int.add_mul, Int.one_mul, Int.mul_comm (P2 (32 - s)), hp32] at h8
    exact h8
  have hy0 := h2 k (by omega)
  rw [e0] at hy0 h3
  have hu1 : Blk .u32 182 (w.setCell ⟨g, k, none⟩ (.int .u32 (y + z % 4294967296))) g (n + 1) (upd r k (y + z % 4294967296)) := h1.set _ _
  have hzz : z / 4294967296 < 4294967296 := by
    have h9 : P2 s ≤ 4294967296 := by
      have h4' : P2 s * 1 ≤ P2 s * P2 (32 - s) := Int.mul_le_mul_of_nonneg_left (by have := P2_pos (32 - s); omega) (by omega)
      omega
    omega
  refine ⟨_, hu1.set (k + 1) (z / 4294967296), (h2.upd (by omega)).upd (by omega), ?_, fun j hj => ?_, ?_, fun u hu => ((h6 u hu).setCell (by have := hu.size; simp; omega) _).setCell (by have := hu.size; simp; omega) _⟩
  · rw [upd_at]; exact hzh
  · rw [upd_ne _ _ (by omega), upd_ne _ _ (by omega)]; exact h4 j (by omega)
  · have e1 : V f (k + 1) = V f k + f k * Bp k := rfl
    rw [V_upd (by omega), V_upd (by omega), upd_ne _ _ (by omega), h4 (k + 1) (by omega), e0, h5, e1, Bp]
    have h9 := Int.mul_ediv_add_emod z 4294967296
    generalize z / 4294967296 = zq at *
    generalize z % 4294967296 = zm at *
    generalize Bp k = p at *
    grind
theorem LeftAt.last {w0 w : World} {g n : Nat} {f : Nat → Int} {s : Nat} (h : LeftAt w0 w g n f s n) (hb : n ≤ 100) : ∃ r, Wds w (.slice (some ⟨g, 0, none⟩) (n + 1) (n + 1)) (n + 1) r ∧ V r (n + 1) = V f n * P2 s ∧ ∀ u, Gr u w0 → Gr u w := by
  obtain ⟨r, h1, h2, h3, h4, h5, h6⟩ := h
  exact ⟨r, h1.wds (by omega) h2, h5, h6⟩

set_option maxRecDepth 100000 in
set_option maxHeartbeats 8000000 in
theorem left_any {v : Value} {N s : Nat} (w : World) (h : Num w v N) (hN : (N : Int) < Bp 40) (h0 : 0 < N) (hs : s < 32) :
    Calls Tryz.prog 60 #[v, .int .u64 (s : Int)] w fun e w' => Gives (N * 2 ^ s) e w' ∧ Gr w w' := by
  obtain ⟨n, f, hW, hT, hV⟩ := h
  have l1 := len_of_lt hW.w32 hT (by rw [hV]; exact hN)
  have hn0 : 0 < n := by
    rcases Nat.eq_zero_or_pos n with e | e
    · subst e; simp [V] at hV; omega
    · exact e
  have HF := Lib.hid hW.w32
  have HV := Lib.hid hV
  obtain ⟨a, cap, rfl, ⟨hcap, _⟩, hA1, _⟩ := hW
  obtain ⟨g, rfl, hC⟩ := hA1 hn0
  have HC := Lib.hid hC
  clear hA1 hT hV hN hC
  have b1 : (n : Int) ≤ 40 := by omega
  have b2 : ((n : Int) == 0) = false := by simp; omega
  have b3 : (s : Int) < 32 := by omega
  have b4 : (0 : Int) ≤ (s : Int) := by omega
  have q1 : (s : Int) / 32 = 0 := by omega
  have q2 : (s : Int) % 32 = (s : Int) := by omega
  have HSS := Lib.hid hs
  clear hs
  generalize hs' : (s : Int) = s' at *
  have HS' := Lib.hid hs'
  clear hs'
  go_enter Tryz.func60, Tryz.ntmps60
  go_wp2_with (at_make; refine wpList_make_blk info_u32 (by rfl) _ _ _ (by rfl) (by kernel_rfl) .i64 .i64 _ _ (n + 1) (by rfl) (by rfl) (by simp) (by simp) (by omega) (by omega) ?_; intro w1 hblk hmk)
  have HI : Hid (LeftAt w w1 w.heap.size n f s 0) := Lib.hid (.start hblk hmk)
  clear hblk hmk
  go_loopw [8, 9] (fun i _ wr => ∃ k : Nat, k ≤ n ∧ i = .int .i64 k ∧ Hid (LeftAt w wr w.heap.size n f s k)) (fun i _ _ => n - (intOf i).toNat)
  case atStart => exact ⟨0, Nat.zero_le _, rfl, HI⟩
  case round =>
    obtain ⟨k, hk, rfl, HI⟩ := hrel
    by_cases hlt : k < n
    · have c0 := HI.out.cell (HC.out k hlt)
      have x0 := HF.out k hlt
      obtain ⟨y, d0, hy, d1, f0, f1⟩ := HI.out.now hlt
      have k0 : (0 : Int) ≤ (k : Int) := by omega
      have k1 : (k : Int) < (n : Int) := by omega
      have hz0 : 0 ≤ f k * P2 s := Int.mul_nonneg x0.1 (by have := P2_pos s; omega)
      have hz1 : f k * P2 s < 9223372036854775808 := by
        have h1 : P2 31 = P2 s * P2 (31 - s) := by rw [← P2_add]; congr 1; have := HSS.out; omega
        rw [P2_31] at h1
        have h2 := P2_pos (31 - s)
        have h3 := P2_pos s
        have h4 : P2 s * 1 ≤ P2 s * P2 (31 - s) := Int.mul_le_mul_of_nonneg_left (by omega) (by omega)
        have h5 : f k * P2 s ≤ 4294967295 * P2 s := Int.mul_le_mul_of_nonneg_right (by omega) (by omega)
        omega
      have e0 : IntKind.u64.wrap (f k * 2 ^ s'.toNat) = f k * P2 s := by
        rw [← HS'.out, Int.toNat_natCast, P2_nat]
        rw [P2_nat] at hz0 hz1
        simp only [Int.natCast_pow, Int.cast_ofNat_Int] at *
        rw [IntKind.wrap_u64]
        omega
      have e1 : bits .or .u32 y (f k * P2 s % 4294967296) = y + f k * P2 s % 4294967296 := by
        rw [shl_mod (by have := HSS.out; omega)]
        refine or32_add hy (Int.emod_nonneg _ (by have := P2_pos (32 - s); omega)) (by have := HSS.out; omega) ?_
        rw [← shl_mod (by have := HSS.out; omega)]
        omega
      have e2 : bits .or .u32 0 (f k * P2 s / 4294967296) = f k * P2 s / 4294967296 := by
        have := or32_add (x := 0) (m := f k * P2 s / 4294967296) (s := 0) (by simp [P2]) (by omega) (by omega) (by simp [P2]; omega)
        simpa [P2] using this
      have HX : Hid (0 ≤ f k ∧ f k < 4294967296) := Lib.hid x0
      have HS2 : Hid (LeftAt w ((wr.setCell ⟨w.heap.size, k, none⟩ (.int .u32 (y + f k * P2 s % 4294967296))).setCell ⟨w.heap.size, k + 1, none⟩ (.int .u32 (f k * P2 s / 4294967296))) w.heap.size n f s (k + 1)) :=
        Lib.hid (HI.out.step hlt (Nat.le_refl _) x0 (by have := HSS.out; omega) d0 rfl)
      go_wp2
      go_round
      case rel => exact ⟨k + 1, hlt, by go_num, HS2⟩
      case measure => simp [intOf]; omega
    · obtain rfl : k = n := by omega
      obtain ⟨r, hw, hv, hg⟩ := HI.out.last (by omega)
      have HW := Lib.hid hw
      have HR := Lib.hid (show V r (k + 1) = ((N * 2 ^ s : Nat) : Int) by rw [hv, HV.out, P2_nat, Int.natCast_mul])
      have HG := Lib.hid (hg w (Gr.refl _))
      clear hw hv hg
      go_wp2_with (go_at_call 58; refine (trim_any _ HW.out HR.out).mono ?_; rintro e w' ⟨⟨r', rfl, hr⟩, rfl⟩)
      go_ret
      exact ⟨.mk hr, HG.out⟩

/-- A right shift's state behind k words. -/
def RightAt (w0 w : World) (g n : Nat) (f : Nat → Int) (s k : Nat) : Prop :=
  ∃ r, Blk .u32 182 w g n r ∧ W32 r n ∧ V f k + f k % P2 s * Bp k = V r k * P2 s + f 0 % P2 s ∧ ∀ u, Gr u w0 → Gr u w
theorem RightAt.start {w0 w : World} {g n : Nat} {f : Nat → Int} {s : Nat} (hb : Blk .u32 182 w g n fun _ => 0) (hg : ∀ u, Gr u w0 → Gr u w) : RightAt w0 w g n f s 0 :=
  ⟨_, hb, fun _ _ => ⟨Int.le_refl _, by show (0 : Int) < _; omega⟩, by simp [V, Bp], hg⟩
theorem RightAt.cell {w0 w : World} {g n : Nat} {f : Nat → Int} {s k : Nat} (h : RightAt w0 w g n f s k) {p : Addr} {v : Value} (hp : w0.cell? p = some v) : w.cell? p = some v := by
  obtain ⟨r, _, _, _, h5⟩ := h
  exact (h5 w0 (Gr.refl _)).cell hp
theorem RightAt.now {w0 w : World} {g n : Nat} {f : Nat → Int} {s k : Nat} (h : RightAt w0 w g n f s k) (hk : k < n) : ∃ y, w.cell? ⟨g, k, none⟩ = some (.int .u32 y) ∧ w.frozen? ⟨g, k, none⟩ = false := by
  obtain ⟨r, h1, h2, _⟩ := h
  exact ⟨r k, h1.cell hk, h1.free _⟩
/-- One word, of it and the next (0 behind the last). -/
theorem RightAt.step {w0 w : World} {g n : Nat} {f : Nat → Int} {s k : Nat} {z : Int} (h : RightAt w0 w g n f s k) (hg : w0.heap.size ≤ g) (hf : ∀ j, 0 ≤ f j ∧ f j < 4294967296) (hs : s ≤ 32) (hz : z = f k + f (k + 1) * 4294967296) :
    RightAt w0 (w.setCell ⟨g, k, none⟩ (.int .u32 (z / P2 s % 4294967296))) g n f s (k + 1) := by
  obtain ⟨r, h1, h2, h5, h6⟩ := h
  have hp := P2_pos s
  refine ⟨_, h1.set _ _, h2.upd ⟨Int.emod_nonneg _ (by omega), Int.emod_lt_of_pos _ (by omega)⟩, ?_, fun u hu => (h6 u hu).setCell (by have := hu.size; simp; omega) _⟩
  have e1 : V f (k + 1) = V f k + f k * Bp k := rfl
  have e2 : V (upd r k (z / P2 s % 4294967296)) (k + 1) = V (upd r k (z / P2 s % 4294967296)) k + (upd r k (z / P2 s % 4294967296)) k * Bp k := rfl
  have e3 : V (upd r k (z / P2 s % 4294967296)) k = V r k := V_congr fun j hj => upd_ne _ _ (by omega)
  rw [e1, e2, e3, upd_at, Bp]
  -- z / P % B = f k / P + (f (k+1) % P) * (B / P)
  have hp32 : P2 s * P2 (32 - s) = 4294967296 := by rw [← P2_add, ← P2_32]; congr 1; omega
  have h7 : z / P2 s % 4294967296 = f k / P2 s + f (k + 1) % P2 s * P2 (32 - s) := by
    have a1 := Int.mul_ediv_add_emod (f k) (P2 s)
    have a2 := Int.mul_ediv_add_emod (f (k + 1)) (P2 s)
    have a3 := Int.emod_nonneg (f k) (show P2 s ≠ 0 by omega)
    have a4 := Int.emod_lt_of_pos (f k) (show 0 < P2 s by omega)
    have a5 := Int.emod_nonneg (f (k + 1)) (show P2 s ≠ 0 by omega)
    have a6 := Int.emod_lt_of_pos (f (k + 1)) (show 0 < P2 s by omega)
    have a7 := hf k
    have hz2 : z = P2 s * (f k / P2 s + f (k + 1) % P2 s * P2 (32 - s) + 4294967296 * (f (k + 1) / P2 s)) + f k % P2 s := by
      rw [hz, ← hp32]
      generalize f k / P2 s = x1 at *
      generalize f k % P2 s = x2 at *
      generalize f (k + 1) / P2 s = y1 at *
      generalize f (k + 1) % P2 s = y2 at *
      generalize P2 (32 - s) = q at *
      generalize P2 s = p at *
      grind
    have hq : z / P2 s = f k / P2 s + f (k + 1) % P2 s * P2 (32 - s) + 4294967296 * (f (k + 1) / P2 s) := by
      rw [hz2, Int.add_comm, Int.add_mul_ediv_left _ _ (by omega), Int.ediv_eq_zero_of_lt a3 a4, Int.zero_add]
    rw [hq, Int.add_mul_emod_self_left]
    refine Int.emod_eq_of_lt (Int.add_nonneg (Int.ediv_nonneg a7.1 (by omega)) (Int.mul_nonneg a5 (by have := P2_pos (32 - s); omega))) ?_
    have b1 : f k / P2 s < P2 (32 - s) := by
      refine Int.ediv_lt_of_lt_mul (by omega) ?_
      rw [Int.mul_comm, hp32]; exact a7.2
    have b2 : (f (k + 1) % P2 s + 1) * P2 (32 - s) ≤ P2 s * P2 (32 - s) := Int.mul_le_mul_of_nonneg_right (by omega) (by have := P2_pos (32 - s); omega)
    rw [hp32, Int.add_mul, Int.one_mul] at b2
    omega
  rw [h7]
  have a1 := Int.mul_ediv_add_emod (f k) (P2 s)
  rw [← hp32]
  generalize f k / P2 s = x1 at *
  generalize f k % P2 s = x2 at *
  generalize f (k + 1) % P2 s = y2 at *
  generalize P2 (32 - s) = q at *
  generalize P2 s = p at *
  generalize Bp k = b at *
  grind
theorem RightAt.last {w0 w : World} {g n N : Nat} {f : Nat → Int} {s : Nat} (h : RightAt w0 w g n f s n) (hb : n ≤ 100) (hz : f n = 0) (hN : V f n = N) : ∃ r, Wds w (.slice (some ⟨g, 0, none⟩) n n) n r ∧ V r n = ((N / 2 ^ s : Nat) : Int) ∧ ∀ u, Gr u w0 → Gr u w := by
  obtain ⟨r, h1, h2, h5, h6⟩ := h
  refine ⟨r, h1.wds (by omega) h2, ?_, h6⟩
  rw [hz, hN] at h5
  have hp := P2_pos s
  rw [Int.natCast_ediv, ← P2_nat]
  rw [show (N : Int) = f 0 % P2 s + V r n * P2 s by simp at h5; omega, Int.add_mul_ediv_right _ _ (by omega), Int.ediv_eq_zero_of_lt (Int.emod_nonneg _ (by omega)) (Int.emod_lt_of_pos _ (by omega)), Int.zero_add]

/-- A number's words, 0 behind the last. -/
theorem Num.cut {w : World} {v : Value} {N : Nat} (h : Num w v N) : ∃ n f, Wds w v n f ∧ Trim f n ∧ V f n = (N : Int) ∧ (∀ j, 0 ≤ f j ∧ f j < 4294967296) ∧ ∀ j, n ≤ j → f j = 0 := by
  obtain ⟨n, f, h1, h2, h3⟩ := h
  have e : ∀ j, j < n → f j = (fun j => if j < n then f j else 0) j := fun j hj => by simp [hj]
  refine ⟨n, fun j => if j < n then f j else 0, h1.congr e, fun h0 => by rw [← e _ (by omega)]; exact h2 h0, by rw [← V_congr e]; exact h3, fun j => ?_, fun j hj => by simp; omega⟩
  by_cases hj : j < n
  · simp only [hj, if_true]; exact h1.w32 j hj
  · simp only [hj, if_false]; omega

set_option maxRecDepth 100000 in
set_option maxHeartbeats 8000000 in
theorem right_any {v : Value} {N s : Nat} (w : World) (h : Num w v N) (hN : (N : Int) < Bp 40) (hs : s < 32) :
    Calls Tryz.prog 61 #[v, .int .u64 (s : Int)] w fun e w' => Gives (N / 2 ^ s) e w' ∧ Gr w w' := by
  obtain ⟨n, f, hW, hT, hV, hF, hZ⟩ := h.cut
  have l1 := len_of_lt hW.w32 hT (by rw [hV]; exact hN)
  have HF := Lib.hid hF
  have HV := Lib.hid hV
  have HZ := Lib.hid (hZ n (Nat.le_refl _))
  have HW2 := Lib.hid hW
  obtain ⟨a, cap, rfl, ⟨hcap, _⟩, hA1, _⟩ := hW
  have HA1 := Lib.hid hA1
  clear hA1 hT hV hN hF hZ
  have b1 : (n : Int) ≤ 40 := by omega
  have b3 : (s : Int) < 32 := by omega
  have b4 : (0 : Int) ≤ (s : Int) := by omega
  have q1 : (s : Int) / 32 = 0 := by omega
  have q2 : (s : Int) % 32 = (s : Int) := by omega
  have HSS := Lib.hid hs
  clear hs
  generalize hs' : (s : Int) = s' at *
  have HS' := Lib.hid hs'
  clear hs'
  go_enter Tryz.func61, Tryz.ntmps61
  by_cases hn : n = 0
  · subst hn
    go_wp2
    go_ret
    have e0 : N = 0 := by have := HV.out; simp [V] at this; omega
    subst e0
    refine ⟨?_, Gr.refl _⟩
    rw [Nat.zero_div]
    exact .mk (Num.zero _)
  obtain ⟨g, rfl, hC⟩ := HA1.out (by omega)
  have HC := Lib.hid hC
  clear hC
  have b2 : (1 : Int) ≤ (n : Int) := by omega
  go_wp2_with (at_make; refine wpList_make_blk info_u32 (by rfl) _ _ _ (by rfl) (by kernel_rfl) .i64 .i64 _ _ n (by rfl) (by rfl) (by simp) (by simp) (by omega) (by omega) ?_; intro w1 hblk hmk)
  have HI : Hid (RightAt w w1 w.heap.size n f s 0) := Lib.hid (.start hblk hmk)
  clear hblk hmk
  go_loopw [8] (fun i wr => ∃ k : Nat, k ≤ n ∧ i = .int .i64 k ∧ Hid (RightAt w wr w.heap.size n f s k)) (fun i _ => n - (intOf i).toNat)
  case atStart => exact ⟨0, Nat.zero_le _, rfl, HI⟩
  case round =>
    obtain ⟨k, hk, rfl, HI⟩ := hrel
    by_cases hlt : k < n
    · have c0 := HI.out.cell (HC.out k hlt)
      have x0 := HF.out k
      have x1 := HF.out (k + 1)
      have k0 : (0 : Int) ≤ (k : Int) := by omega
      have k1 : (k : Int) < (n : Int) := by omega
      obtain ⟨y, _, f0⟩ := HI.out.now hlt
      have e1 : (2 : Int) ^ s'.toNat = P2 s := by
        rw [← HS'.out, Int.toNat_natCast, P2_nat]; simp
      have HS2 : Hid (RightAt w (wr.setCell ⟨w.heap.size, k, none⟩ (.int .u32 ((f k + f (k + 1) * 4294967296) / P2 s % 4294967296))) w.heap.size n f s (k + 1)) :=
        Lib.hid (HI.out.step (Nat.le_refl _) HF.out (by have := HSS.out; omega) rfl)
      have e2 := or_word x0 x1
      by_cases hl2 : k + 1 < n
      · have c1 := HI.out.cell (HC.out (k + 1) hl2)
        have k2 : (k : Int) + 1 < (n : Int) := by omega
        generalize f (k + 1) = x' at *
        generalize f k = x at *
        go_wp2
        go_round
        case rel => exact ⟨k + 1, hlt, by go_num, HS2⟩
        case measure => simp [intOf]; omega
      · obtain rfl : k + 1 = n := by omega
        have HS3 := HS2
        rw [HZ.out, Int.zero_mul, Int.add_zero] at HS3
        have k2 : ¬ ((k : Int) + 1 < ((k + 1 : Nat) : Int)) := by omega
        clear HS2 e2 x1
        generalize f k = x at *
        go_wp2
        go_round
        case rel => exact ⟨k + 1, hlt, by go_num, HS3⟩
        case measure => simp [intOf]
    · obtain rfl : k = n := by omega
      obtain ⟨r, hw, hv, hg⟩ := HI.out.last (by omega) HZ.out HV.out
      have HW := Lib.hid hw
      have HR := Lib.hid hv
      have HG := Lib.hid (hg w (Gr.refl _))
      clear hw hv hg
      go_wp2_with (go_at_call 58; refine (trim_any _ HW.out HR.out).mono ?_; rintro e w' ⟨⟨r', rfl, hr⟩, rfl⟩)
      go_ret
      exact ⟨.mk hr, HG.out⟩
end Go.Proofs.YtgifghbnpdanhaaGreatDoor

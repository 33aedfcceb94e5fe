/-
  millracebig's words: small, mul.
-/
import Derived.Test.YtogmjjaoflaogaaDoorBigC
import Derived.Deep.QuietTactic
import Derived.IntWalk
namespace Go.Proofs.YtogmjjaoflaogaaDoor
open Go.RowKit

theorem or_low {x y : Int} (hx : 0 ≤ x ∧ x < 4294967296) (hy : 0 ≤ y ∧ y < 4294967296) : bits BinOp.or IntKind.u64 (y * 4294967296) x = x + y * 4294967296 := by
  rw [← or_word hx hy]
  obtain ⟨a, rfl⟩ := Int.eq_ofNat_of_zero_le hx.1
  obtain ⟨b, rfl⟩ := Int.eq_ofNat_of_zero_le hy.1
  rw [show ((b : Int) * 4294967296) = ((b * 4294967296 : Nat) : Int) by omega, u64_or_nat _ _ (by omega) (by omega), u64_or_nat _ _ (by omega) (by omega), Nat.or_comm]

/-- Division by one word, with k words still to come. -/
def SmallAt (w0 w : World) (g n : Nat) (f : Nat → Int) (d : Int) (k : Nat) (x : Int) : Prop :=
  ∃ r, Blk .u32 139 w g n r ∧ W32 r n ∧ (∀ j, j < k → r j = 0) ∧ V r n * d + x * Bp k + V f k = V f n ∧ ∀ u, Gr u w0 → Gr u w
theorem SmallAt.start {w0 w : World} {g n : Nat} {f : Nat → Int} {d : Int} (hb : Blk .u32 139 w g n fun _ => 0) (hg : ∀ u, Gr u w0 → Gr u w) : SmallAt w0 w g n f d n 0 :=
  ⟨_, hb, fun _ _ => ⟨Int.le_refl _, by show (0 : Int) < _; omega⟩, fun _ _ => rfl, by rw [V_zeros (Nat.zero_le _) fun _ _ _ => rfl]; simp [V], hg⟩
theorem SmallAt.step {w0 w : World} {g n : Nat} {f : Nat → Int} {d x z : Int} {k : Nat} (h : SmallAt w0 w g n f d (k + 1) x) (hk : k < n) (hg : w0.heap.size ≤ g) (hx : 0 ≤ x ∧ x < d) (hf : 0 ≤ f k ∧ f k < 4294967296) (hz : z = f k + x * 4294967296) :
    SmallAt w0 (w.setCell ⟨g, k, none⟩ (.int .u32 (z / d))) g n f d k (z % d) := by
  obtain ⟨r, h1, h2, h3, h4, h5⟩ := h
  have hz' : z = x * 4294967296 + f k := by omega
  refine ⟨upd r k (z / d), h1.set _ _, h2.upd (by rw [hz']; exact small_word hx hf), fun j hj => ?_, ?_, fun u hu => (h5 u hu).setCell (by have := hu.size; simp; omega) _⟩
  · rw [upd_ne _ _ (by omega)]; exact h3 j (by omega)
  · have e1 : V f (k + 1) = V f k + f k * Bp k := rfl
    rw [Bp, e1] at h4
    have e2 := small_step (s := V r n * d) (r := x) (a := f k) (d := d) (p := Bp k) hz'
    rw [V_upd (by omega), h3 k (by omega), Int.sub_zero]
    generalize Bp k = p at *
    generalize z / d = q at *
    generalize z % d = m at *
    grind
theorem SmallAt.cell {w0 w : World} {g n : Nat} {f : Nat → Int} {d : Int} {k : Nat} {x : Int} (h : SmallAt w0 w g n f d k x) {p : Addr} {v : Value} (hp : w0.cell? p = some v) : w.cell? p = some v := by
  obtain ⟨r, _, _, _, _, h5⟩ := h
  exact (h5 w0 (Gr.refl _)).cell hp
theorem SmallAt.free {w0 w : World} {g n : Nat} {f : Nat → Int} {d : Int} {k : Nat} {x : Int} (h : SmallAt w0 w g n f d k x) (j : Nat) (hj : j < n) : (∃ x, w.cell? ⟨g, j, none⟩ = some (.int .u32 x)) ∧ w.frozen? ⟨g, j, none⟩ = false := by
  obtain ⟨r, h1, _⟩ := h
  exact ⟨⟨_, h1.cell hj⟩, h1.free j⟩
theorem SmallAt.last {w0 w : World} {g n : Nat} {f : Nat → Int} {d : Int} {x : Int} {A D : Nat} (h : SmallAt w0 w g n f d 0 x) (hb : n ≤ 100) (hd : d = (D : Int)) (hx : 0 ≤ x ∧ x < d) (hA : V f n = (A : Int)) :
    ∃ r, Wds w (.slice (some ⟨g, 0, none⟩) n n) n r ∧ V r n = ((A / D : Nat) : Int) ∧ x = ((A % D : Nat) : Int) ∧ ∀ u, Gr u w0 → Gr u w := by
  obtain ⟨r, h1, h2, h3, h4, h5⟩ := h
  have h6 := (V_in h2).1
  rw [show Bp 0 = 1 from rfl, show V f 0 = 0 from rfl, hA, hd] at h4
  rw [hd] at hx
  obtain ⟨q, hq⟩ := Int.eq_ofNat_of_zero_le h6
  obtain ⟨y, rfl⟩ := Int.eq_ofNat_of_zero_le hx.1
  rw [hq] at h4
  have e : q * D + y = A := by
    have : ((q * D + y : Nat) : Int) = (A : Int) := by simp; omega
    omega
  have e2 : A / D = q ∧ A % D = y := by
    have hy : y < D := by omega
    subst e
    constructor
    · rw [Nat.mul_comm, Nat.mul_add_div (by omega), Nat.div_eq_of_lt hy, Nat.add_zero]
    · rw [Nat.mul_comm, Nat.mul_add_mod, Nat.mod_eq_of_lt hy]
  exact ⟨r, h1.wds (by omega) h2, by rw [hq, e2.1], by rw [e2.2], h5⟩

set_option maxRecDepth 100000 in
set_option maxHeartbeats 4000000 in
theorem small_any {v : Value} {A D : Nat} (w : World) (h : Num w v A) (hA : (A : Int) < Bp 40) (hD : 0 < D) (hD' : D < 4294967296) :
    Calls Tryd.prog 92 #[v, .int .u32 (D : Int)] w fun e w' => (∃ r, e = .returned (.tuple #[r, .int .u32 ((A % D : Nat) : Int)]) ∧ Num w' r (A / D)) ∧ Gr w w' := by
  obtain ⟨n, f, hW, hT, hV⟩ := h
  have l1 := len_of_lt hW.w32 hT (by rw [hV]; exact hA)
  have HF := Lib.hid hW.w32
  have HV := Lib.hid hV
  obtain ⟨a, cap, rfl, ⟨hcap, _⟩, hA1, _⟩ := hW
  have HA1 := Lib.hid hA1
  clear hA1 hT hV hA
  have b1 : (n : Int) ≤ 100 := by omega
  have d0 : (0 : Int) < (D : Int) := by omega
  have d1 : (D : Int) < 4294967296 := by omega
  have HD : Hid ((D : Int) = (D : Int)) := Lib.hid rfl
  generalize hd : (D : Int) = d at HD d0 d1
  have HDD := Lib.hid hd
  clear hd HD
  have d2 : (d == 0) = false := by simp; omega
  go_enter Tryd.func92, Tryd.ntmps92
  go_wp2_with (at_make; refine wpList_make_blk info_u32 (by rfl) _ _ _ (by rfl) (by kernel_rfl) .i64 .i64 _ _ n (by rfl) (by rfl) (by simp) (by simp) (by omega) (by omega) ?_; intro w1 hblk hmk)
  have HI : Hid (SmallAt w w1 w.heap.size n f d n 0) := Lib.hid (.start hblk hmk)
  clear hblk hmk
  go_loopw [7, 8] (fun c i wr => ∃ k : Nat, k ≤ n ∧ i = .int .i64 ((k : Int) - 1) ∧ ∃ x : Int, c = .int .u64 x ∧ (0 ≤ x ∧ x < d) ∧ Hid (SmallAt w wr w.heap.size n f d k x)) (fun _ i _ => (intOf i + 1).toNat)
  case atStart => exact ⟨n, Nat.le_refl _, rfl, 0, rfl, by omega, HI⟩
  case round =>
    obtain ⟨k', hk, rfl, x, rfl, hx, HI⟩ := hrel
    rcases Nat.eq_zero_or_pos k' with h0 | h0
    · subst h0
      obtain ⟨r, hw, hv, hm, hg⟩ := HI.out.last (by omega) HDD.out.symm hx HV.out
      have HW := Lib.hid hw
      have HR := Lib.hid hv
      have HM := Lib.hid hm
      have HG := Lib.hid (hg w (Gr.refl _))
      clear hw hv hg hm
      have hxx : x % 4294967296 = x := by omega
      go_wp2_with (go_at_call 76; refine (trim_any _ HW.out HR.out).mono ?_; rintro e w' ⟨⟨r', rfl, hr⟩, rfl⟩)
      go_ret2
      exact ⟨⟨r', by rw [← HM.out]; rfl, hr⟩, HG.out⟩
    · obtain ⟨k, rfl⟩ : ∃ k, k' = k + 1 := ⟨k' - 1, by omega⟩
      obtain ⟨g, rfl, hC⟩ := HA1.out (by omega)
      have c0 := HI.out.cell (hC k (by omega))
      have x0 := HF.out k (by omega)
      obtain ⟨⟨y0, x1⟩, x2⟩ := HI.out.free k (by omega)
      clear hC
      have e1 : ((k + 1 : Nat) : Int) - 1 = (k : Int) := by omega
      rw [e1]
      clear e1
      have k0 : (0 : Int) ≤ (k : Int) := by omega
      have k1 : (k : Int) < (n : Int) := by omega
      have HO := Lib.hid (or_low x0 (y := x) (by omega))
      have HX := Lib.hid (fun z hz => HI.out.step (z := z) (by omega) (Nat.le_refl _) hx x0 hz)
      have HSW := Lib.hid (small_word hx x0)
      generalize f k = y at *
      generalize hz : bits BinOp.or IntKind.u64 (x * 4294967296) y = z at HO
      have HX2 := Lib.hid (HX.out z HO.out)
      have z0 : 0 ≤ z := by rw [HO.out]; omega
      have z1 : z < 18446744073709551616 := by rw [HO.out]; omega
      have z2 : 0 ≤ z / d ∧ z / d < 4294967296 := by have := HSW.out; rw [show x * 4294967296 + y = z by rw [HO.out]; omega] at this; exact this
      have z3 : 0 ≤ z % d ∧ z % d < d := ⟨Int.emod_nonneg _ (by omega), Int.emod_lt_of_pos _ d0⟩
      clear HX HSW
      go_wp2
      go_roundw
      case rel => exact ⟨k, by omega, rfl, _, rfl, z3, HX2⟩
      case measure => simp [intOf] <;> omega

/-- A product behind i words of f, and j words of the row of word i. -/
def MulAt (w0 w : World) (g n n' : Nat) (f f' : Nat → Int) (i j : Nat) (c : Int) : Prop :=
  ∃ r, Blk .u32 139 w g (n + n') r ∧ W32 r (n + n') ∧ (∀ k, i + n' ≤ k → r k = 0) ∧ V r (n + n') + c * Bp (i + j) = V f i * V f' n' + f i * V f' j * Bp i ∧ ∀ u, Gr u w0 → Gr u w
theorem MulAt.start {w0 w : World} {g n n' : Nat} {f f' : Nat → Int} (hb : Blk .u32 139 w g (n + n') fun _ => 0) (hg : ∀ u, Gr u w0 → Gr u w) : MulAt w0 w g n n' f f' 0 0 0 :=
  ⟨_, hb, fun _ _ => ⟨Int.le_refl _, by show (0 : Int) < _; omega⟩, fun _ _ => rfl, by rw [V_zeros (Nat.zero_le _) fun _ _ _ => rfl]; simp [V], hg⟩
theorem MulAt.cell {w0 w : World} {g n n' : Nat} {f f' : Nat → Int} {i j : Nat} {c : Int} (h : MulAt w0 w g n n' f f' i j c) {p : Addr} {v : Value} (hp : w0.cell? p = some v) : w.cell? p = some v := by
  obtain ⟨r, _, _, _, _, h5⟩ := h
  exact (h5 w0 (Gr.refl _)).cell hp
theorem MulAt.drewN {w0 w : World} {g n n' : Nat} {f f' : Nat → Int} {i j : Nat} {c : Int} (h : MulAt w0 w g n n' f f' i j c) (q : Nat) : MulAt w0 (w.drewN q) g n n' f f' i j c := by
  obtain ⟨r, h1, h2, h3, h4, h5⟩ := h
  exact ⟨r, h1.drewN q, h2, h3, h4, fun u hu => (h5 u hu).drewN q⟩
theorem MulAt.free {w0 w : World} {g n n' : Nat} {f f' : Nat → Int} {i j : Nat} {c : Int} (h : MulAt w0 w g n n' f f' i j c) (k : Nat) (hk : k < n + n') : (∃ x, w.cell? ⟨g, k, none⟩ = some (.int .u32 x) ∧ (0 ≤ x ∧ x < 4294967296)) ∧ w.frozen? ⟨g, k, none⟩ = false := by
  obtain ⟨r, h1, h2, _⟩ := h
  exact ⟨⟨_, h1.cell hk, h2 k hk⟩, h1.free k⟩
theorem MulAt.step {w0 w : World} {g n n' : Nat} {f f' : Nat → Int} {i j : Nat} {c z y : Int} (h : MulAt w0 w g n n' f f' i j c) (hi : i < n) (hj : j < n') (hg : w0.heap.size ≤ g) (hy : w.cell? ⟨g, i + j, none⟩ = some (.int .u32 y)) (hz : z = c + f i * f' j + y) :
    MulAt w0 (w.setCell ⟨g, i + j, none⟩ (.int .u32 (z % 4294967296))) g n n' f f' i (j + 1) (z / 4294967296) := by
  obtain ⟨r, h1, h2, h3, h4, h5⟩ := h
  have e0 : r (i + j) = y := by
    rw [h1.cell (show i + j < n + n' by omega)] at hy
    simpa using hy
  refine ⟨upd r (i + j) (z % 4294967296), h1.set _ _, h2.upd (by omega), fun k hk => ?_, ?_, fun u hu => (h5 u hu).setCell (by have := hu.size; simp; omega) _⟩
  · rw [upd_ne _ _ (by omega)]; exact h3 k hk
  · have e1 : V f' (j + 1) = V f' j + f' j * Bp j := rfl
    have e2 := mul_step (s := V r (n + n')) (c := c) (a := f i) (b := f' j) (r := y) (p := Bp (i + j)) hz
    rw [V_upd (by omega), e0, ← Nat.add_assoc, Bp, e2, e1, h4, Bp_add]
    grind
theorem MulAt.row {w0 w : World} {g n n' : Nat} {f f' : Nat → Int} {i : Nat} {c : Int} (h : MulAt w0 w g n n' f f' i n' c) (hi : i < n) (hg : w0.heap.size ≤ g) (hc : 0 ≤ c ∧ c < 4294967296) :
    MulAt w0 (w.setCell ⟨g, i + n', none⟩ (.int .u32 c)) g n n' f f' (i + 1) 0 0 := by
  obtain ⟨r, h1, h2, h3, h4, h5⟩ := h
  refine ⟨upd r (i + n') c, h1.set _ _, h2.upd hc, fun k hk => ?_, ?_, fun u hu => (h5 u hu).setCell (by have := hu.size; simp; omega) _⟩
  · rw [upd_ne _ _ (by omega)]; exact h3 k (by omega)
  · have e1 : V f (i + 1) = V f i + f i * Bp i := rfl
    rw [V_upd (by omega), h3 _ (Nat.le_refl _), Int.sub_zero, h4, e1]
    simp only [V]
    grind
theorem MulAt.last {w0 w : World} {g n n' : Nat} {f f' : Nat → Int} (h : MulAt w0 w g n n' f f' n 0 0) (hb : n + n' ≤ 1000) :
    ∃ r, Wds w (.slice (some ⟨g, 0, none⟩) (n + n') (n + n')) (n + n') r ∧ V r (n + n') = V f n * V f' n' ∧ ∀ u, Gr u w0 → Gr u w := by
  obtain ⟨r, h1, h2, h3, h4, h5⟩ := h
  exact ⟨r, h1.wds (by omega) h2, by rw [show V f' 0 = 0 from rfl] at h4; omega, h5⟩

set_option maxRecDepth 100000 in
set_option maxHeartbeats 4000000 in
theorem mul_any {v v' : Value} {A B : Nat} (w : World) (h : Num w v A) (h' : Num w v' B) (hA : (A : Int) < Bp 40) (hB : (B : Int) < Bp 40) :
    Calls Tryd.prog 69 #[v, v'] w fun e w' => Gives (A * B) e w' ∧ Gr w w' := by
  obtain ⟨n, f, hW, hT, hV⟩ := h
  obtain ⟨n', f', hW', hT', hV'⟩ := h'
  have l1 := len_of_lt hW.w32 hT (by rw [hV]; exact hA)
  have l2 := len_of_lt hW'.w32 hT' (by rw [hV']; exact hB)
  have HF := Lib.hid hW.w32
  have HF' := Lib.hid hW'.w32
  have HV := Lib.hid hV
  have HV' := Lib.hid hV'
  obtain ⟨a, cap, rfl, ⟨hcap, _⟩, hA1, _⟩ := hW
  obtain ⟨a', cap', rfl, ⟨hcap', _⟩, hA2, _⟩ := hW'
  have HA1 := Lib.hid hA1
  have HA2 := Lib.hid hA2
  clear hA1 hA2 hT hT' hV hV' hA hB
  have b1 : (n : Int) ≤ 40 := by omega
  have b2 : (n' : Int) ≤ 40 := by omega
  by_cases h0 : n = 0
  · subst h0
    have HZ : Hid (0 = A * B) := Lib.hid (by have := HV.out; simp [V] at this; rw [show A = 0 by omega]; simp)
    go_enter Tryd.func69, Tryd.ntmps69
    go_wp2
    go_ret
    exact ⟨.mk (by rw [← HZ.out]; exact Num.zero _), Gr.refl _⟩
  by_cases h0' : n' = 0
  · subst h0'
    have HZ : Hid (0 = A * B) := Lib.hid (by have := HV'.out; simp [V] at this; rw [show B = 0 by omega]; simp)
    have hn : ((n : Int) == 0) = false := by simp; omega
    go_enter Tryd.func69, Tryd.ntmps69
    go_wp2
    go_ret
    exact ⟨.mk (by rw [← HZ.out]; exact Num.zero _), Gr.refl _⟩
  have hn : ((n : Int) == 0) = false := by simp; omega
  have hn' : ((n' : Int) == 0) = false := by simp; omega
  obtain ⟨g, rfl, hC⟩ := HA1.out (by omega)
  obtain ⟨g', rfl, hC'⟩ := HA2.out (by omega)
  have HC := Lib.hid hC
  have HC' := Lib.hid hC'
  clear hC hC'
  go_enter Tryd.func69, Tryd.ntmps69
  go_wp2_with (at_make; refine wpList_make_blk info_u32 (by rfl) _ _ _ (by rfl) (by kernel_rfl) .i64 .i64 _ _ (n + n') (by rfl) (by rfl) (by simp) (by simp) (by omega) (by omega) ?_; intro w1 hblk hmk)
  have HI : Hid (MulAt w w1 w.heap.size n n' f f' 0 0 0) := Lib.hid (.start hblk hmk)
  clear hblk hmk
  go_loopw [6, 7, 8] (fun i _ _ wr => ∃ k : Nat, k ≤ n ∧ i = .int .i64 k ∧ Hid (MulAt w wr w.heap.size n n' f f' k 0 0)) (fun i _ _ _ => n - (intOf i).toNat)
  case atStart => exact ⟨0, Nat.zero_le _, rfl, HI⟩
  case round =>
    obtain ⟨i, hi, rfl, HO⟩ := hrel
    by_cases hlt : i < n
    · have c0 := HC.out i hlt
      have x0 := HF.out i hlt
      have i0 : (0 : Int) ≤ (i : Int) := by omega
      have i1 : (i : Int) < (n : Int) := by omega
      obtain ⟨wo, hwo⟩ : ∃ wo, wo = wr := ⟨_, rfl⟩
      rw [← hwo]
      rw [← hwo] at HO
      clear hwo
      go_wp2
      go_loopw [7, 8] (fun c i' wr => ∃ j : Nat, j ≤ n' ∧ i' = .int .i64 j ∧ ∃ x : Int, c = .int .u64 x ∧ (0 ≤ x ∧ x < 4294967296) ∧ Hid (MulAt w wr w.heap.size n n' f f' i j x)) (fun _ i' _ => n' - (intOf i').toNat)
      case atStart => exact ⟨0, Nat.zero_le _, rfl, 0, rfl, by omega, HO⟩
      case round =>
        obtain ⟨j, hj, rfl, x, rfl, hx, HI⟩ := hrel
        by_cases hlt' : j < n'
        · have d0 := HI.out.cell c0
          have d1 := HI.out.cell (HC'.out j hlt')
          have x1 := HF'.out j hlt'
          obtain ⟨⟨y, d2, x2⟩, d3⟩ := HI.out.free (i + j) (by omega)
          have hp := mul_word x0 x1
          have HX := Lib.hid (fun q z hz => (HI.out.drewN q).step (z := z) hlt hlt' (Nat.le_refl _) (show (wr.drewN q).cell? _ = _ from d2) hz)
          generalize f' j = b at *
          generalize f i = a at *
          generalize hab : a * b = p at *
          have k0 : (0 : Int) ≤ (j : Int) := by omega
          have k1 : (j : Int) < (n' : Int) := by omega
          have HXX := Lib.hid (fun q => HX.out q (x + (p + y)) (by omega))
          clear HX
          have s1 : IntKind.i64.wrap ((i : Int) + (j : Int)) = (i : Int) + (j : Int) := IntWalk.i64_in _ (by omega)
          have s2 : ((i : Int) + (j : Int)).toNat = i + j := by omega
          have s3 : (0 : Int) ≤ (i : Int) + (j : Int) := by omega
          have s4 : IntKind.u64.wrap p = p := by rw [IntKind.wrap_u64]; omega
          have s5 : IntKind.u64.wrap (p + y) = p + y := by rw [IntKind.wrap_u64]; omega
          have s6 : IntKind.u64.wrap (x + (p + y)) = x + (p + y) := by rw [IntKind.wrap_u64]; omega
          go_wp2
          go_quiet (fail)
          go_wp2
          go_roundw
          case rel => exact ⟨j + 1, by omega, by go_num, _, rfl, by omega, HXX.out _⟩
          case measure => simp [intOf] <;> omega
        · obtain rfl : j = n' := by omega
          obtain ⟨⟨y, d2, _⟩, d3⟩ := HI.out.free (i + j) (by omega)
          have HX := Lib.hid (HI.out.row hlt (Nat.le_refl _) hx)
          have hxx : x % 4294967296 = x := by omega
          go_wp2
          go_roundw
          case rel => exact ⟨i + 1, by omega, by go_num, HX⟩
          case measure => simp [intOf] <;> omega
    · obtain rfl : i = n := by omega
      obtain ⟨r, hw, hv, hg⟩ := HO.out.last (by omega)
      have HW := Lib.hid hw
      have HR := Lib.hid (show V r (i + n') = ((A * B : Nat) : Int) by rw [hv, HV.out, HV'.out]; simp)
      have HG := Lib.hid (hg w (Gr.refl _))
      clear hw hv hg
      go_wp2_with (go_at_call 76; refine (trim_any _ HW.out HR.out).mono ?_; rintro e w' ⟨⟨r', rfl, hr⟩, rfl⟩)
      go_ret
      exact ⟨.mk hr, HG.out⟩
end Go.Proofs.YtogmjjaoflaogaaDoor

/-
  millracebig's words: div, the long division by two words.
-/
import Derived.Test.YtgifghbnpdanhaaGreatDoorBigX
import Derived.Laws.CopyOwn
import Derived.Deep.CutBlock
import Derived.Deep.DeepCutAuto
import Derived.Deep.RegionHeld3
namespace Go.Proofs.YtgifghbnpdanhaaGreatDoor
open Go.RowKit

/-- copy of n words to the head of an own block. -/
theorem wpList_copy_blk {w : World} {ops : Array Oper} {rest : List Oper} {o : Oper} {a : Act} {Q : Exit → Act → World → Prop} (hgd : o.guard = none) (d s : Operand) (sT : TypeId)
    (ho : o.op = .call { callee := .builtin .copy, args := #[d, s], argTypes := #[138, sT] }) (hu : Tryz.prog.underlying 138 = some (.slice 182)) (hsz : (Tryz.prog.info? 182).map (·.size) = some 1)
    (g m : Nat) (f0 : Nat → Int) (hb : Blk .u32 182 w g m f0) (n g2 cap : Nat) (f : Nat → Int) (hd : a.eval d = .slice (some ⟨g, 0, none⟩) m m) (hs : a.eval s = .slice (some ⟨g2, 0, none⟩) n cap)
    (hn : n ≤ m) (hc : ∀ i, i < n → w.cell? ⟨g2, i, none⟩ = some (.int .u32 (f i)))
    (hK : ∀ w', Blk .u32 182 w' g m (fun i => if i < n then f i else f0 i) → (∀ u, Gr u w → u.heap.size ≤ g → Gr u w') → wpList Tryz.prog ops Q rest (a.put o.dst (goInt n)) w') : wpList Tryz.prog ops Q (o :: rest) a w := by
  obtain ⟨cur, h1, h2, h3⟩ := hb
  have hl : ((List.range n).map fun i => Value.int .u32 (f i)).length = n := by simp
  refine wpList_copy_own hgd d s 138 sT ho 182 hu hsz g 0 m m ⟨g2, 0, none⟩ n cap hd hs cur 182 h1 ((List.range n).map fun i => Value.int .u32 (f i)) (by rw [hl]; simp [Nat.min_def]; omega) (fun j v hj => ?_) (by rw [hl]; omega) (fun v hv => ?_) ?_
  · rcases Nat.lt_or_ge j n with h4 | h4
    · simp [h4] at hj
      subst hj
      have := hc j h4
      rcases j with _ | j <;> simpa [Addr.add] using this
    · rw [List.getElem?_eq_none (by rw [hl]; exact h4)] at hj
      cases hj
  · simp at hv
    obtain ⟨i, _, rfl⟩ := hv
    rfl
  · rw [hl]
    refine hK _ ⟨_, setRow_heap w g _ _ _ _ h1, ?_, fun i hi => ?_⟩ fun u hu hug => below_setRow hu hug _
    · simp [hl]; omega
    · simp only [List.take_zero, List.nil_append, List.getElem?_toArray, Nat.zero_add]
      by_cases h4 : i < n
      · rw [List.getElem?_append_left (by rw [hl]; exact h4)]
        simp [h4]
      · rw [List.getElem?_append_right (by rw [hl]; omega), hl, List.getElem?_drop, Array.getElem?_toList]
        rw [show n + (i - n) = i by omega, h3 i hi]
        simp [h4]

/-- A number of two words. -/
theorem Num.two {w : World} {v : Value} {N : Nat} (h : Num w v N) (h1 : 4294967296 ≤ (N : Int)) (h2 : (N : Int) < 18446744073709551616) :
    ∃ g cap f, v = .slice (some ⟨g, 0, none⟩) 2 cap ∧ Wds w v 2 f ∧ (0 ≤ f 0 ∧ f 0 < 4294967296) ∧ (0 < f 1 ∧ f 1 < 4294967296) ∧ (N : Int) = f 1 * 4294967296 + f 0 ∧ w.cell? ⟨g, 0, none⟩ = some (.int .u32 (f 0)) ∧ w.cell? ⟨g, 1, none⟩ = some (.int .u32 (f 1)) ∧ V f 2 = (N : Int) := by
  obtain ⟨n, f, h3, h4, h5⟩ := h
  have hl := len_of_lt (k := 2) h3.w32 h4 (by rw [h5]; exact h2)
  have hg : 1 < n := by
    have h6 := (V_in h3.w32).2
    rcases Nat.lt_or_ge 1 n with h7 | h7
    · exact h7
    · have h8 := Bp_mono h7
      rw [show Bp 1 = 4294967296 from rfl] at h8
      omega
  obtain rfl : n = 2 := by omega
  have k0 := h3.w32 0 (by omega)
  have k1 := h3.w32 1 (by omega)
  have k2 := h4 (by omega)
  have hW := h3
  obtain ⟨a, cap, rfl, _, h6, _⟩ := h3
  obtain ⟨g, rfl, h7⟩ := h6 (by omega)
  refine ⟨g, cap, f, rfl, hW, k0, ⟨?_, k1.2⟩, ?_, h7 0 (by omega), h7 1 (by omega), h5⟩
  · have : f (2 - 1) = f 1 := rfl
    omega
  · rw [← h5]; simp [V, Bp]; omega
/-- How far the divisor is shifted. -/
theorem shift_two {B L : Nat} {x y : Int} (hB : (B : Int) = x * 4294967296 + y) (hy : 0 ≤ y ∧ y < 4294967296) (hx : 0 < x) (hL : L ≤ 32) (h1 : x / P2 L = 0) (h2 : 0 < L → 0 < x / P2 (L - 1)) :
    1 ≤ L ∧ 9223372036854775808 ≤ (B : Int) * P2 (32 - L) ∧ (B : Int) * P2 (32 - L) < 18446744073709551616 := by
  have p0 := P2_pos L
  have h3 : x < P2 L := by
    rcases Int.lt_or_le x (P2 L) with h | h
    · exact h
    · have := (Int.le_ediv_iff_mul_le (a := 1) (b := x) (c := P2 L) (by omega)).2 (by omega)
      omega
  have hL1 : 1 ≤ L := by
    rcases Nat.eq_zero_or_pos L with h | h
    · subst h
      simp [P2] at h3
      omega
    · exact h
  obtain ⟨l, rfl⟩ : ∃ l, L = l + 1 := ⟨L - 1, by omega⟩
  have p1 := P2_pos l
  have p2 := P2_pos (32 - (l + 1))
  have h4 : P2 l ≤ x := by
    have h5 := h2 (by omega)
    rw [Nat.add_sub_cancel] at h5
    have h6 := (Int.le_ediv_iff_mul_le (a := 1) (b := x) (c := P2 l) (by omega)).1 (by omega)
    omega
  have h5 : P2 l * P2 (32 - (l + 1)) = 2147483648 := by rw [← P2_add, ← P2_31]; congr 1; omega
  rw [show P2 (l + 1) = 2 * P2 l from rfl] at h3
  generalize P2 (32 - (l + 1)) = q at *
  generalize P2 l = p at *
  have h6 : p * q ≤ x * q := Int.mul_le_mul_of_nonneg_right h4 (by omega)
  have h7 : (x + 1) * q ≤ 2 * p * q := Int.mul_le_mul_of_nonneg_right (by omega) (by omega)
  have h8 : 0 ≤ y * q := Int.mul_nonneg hy.1 (by omega)
  have h9 : y * q < 4294967296 * q := Int.mul_lt_mul_of_pos_right hy.2 (by omega)
  rw [hB, Int.add_mul, Int.mul_right_comm]
  rw [Int.add_mul, Int.one_mul, Int.mul_assoc] at h7
  omega
theorem take_word {x p d : Int} (hx : 0 ≤ x ∧ x < 4294967296) (hp : 0 ≤ p ∧ p < 4294967296) (hd : 0 ≤ d ∧ d ≤ 1) :
    IntKind.u64.wrap (IntKind.u64.wrap (x - p) - d) % 4294967296 = (x - p - d) % 4294967296 ∧ IntKind.u64.wrap (IntKind.u64.wrap (x - p) - d) / 9223372036854775808 = (if x - p - d < 0 then 1 else 0) := by
  rw [IntKind.wrap_u64, IntKind.wrap_u64]
  refine ⟨by omega, ?_⟩
  split <;> omega
theorem left_at {v : Value} {N s : Nat} {s' : Int} (w : World) (h : Num w v N) (hN : LtB N 40) (h0 : 0 < N) (hs : s < 32) (hs' : s' = (s : Int)) :
    Calls Tryz.prog 60 #[v, .int .u64 s'] w fun e w' => Gives (N * 2 ^ s) e w' ∧ Gr w w' := by
  subst hs'
  exact left_any w h hN.lt h0 hs
theorem Num.len_lt {w : World} {a : Option Addr} {n cap N : Nat} (h : Num w (.slice a n cap) N) : (N : Int) < Bp n := by
  obtain ⟨m, f, h1, _, h3⟩ := h
  have h5 := (V_in h1.w32).2
  obtain ⟨_, _, h4, _⟩ := h1
  simp at h4
  rw [h4.2.1, ← h3]
  exact h5
theorem Num.words {w : World} {v : Value} {N k : Nat} (h : Num w v N) (h0 : 0 < N) (hN : (N : Int) < Bp k) : ∃ g n cap f, v = .slice (some ⟨g, 0, none⟩) n cap ∧ n ≤ k ∧ W32 f n ∧ V f n = (N : Int) ∧ ∀ i, i < n → w.cell? ⟨g, i, none⟩ = some (.int .u32 (f i)) := by
  obtain ⟨n, f, h1, h2, h3⟩ := h
  have h4 := len_of_lt h1.w32 h2 (by rw [h3]; exact hN)
  have h5 : 0 < n := by
    rcases Nat.eq_zero_or_pos n with e | e
    · subst e; simp [V] at h3; omega
    · exact e
  obtain ⟨a, cap, rfl, _, h6, h7⟩ := h1
  obtain ⟨g, rfl, h8⟩ := h6 h5
  exact ⟨g, n, cap, f, rfl, h4, h7, h3, h8⟩
theorem shl_lt {A n s : Nat} (hA : (A : Int) < Bp n) (hs : s < 32) : ((A * 2 ^ s : Nat) : Int) < Bp (n + 1) := by
  have h1 : P2 32 = P2 s * P2 (32 - s) := by rw [← P2_add]; congr 1; omega
  rw [P2_32] at h1
  have p1 := P2_pos s
  have p2 := P2_pos (32 - s)
  have h2 : P2 s * 1 ≤ P2 s * P2 (32 - s) := Int.mul_le_mul_of_nonneg_left (by omega) (by omega)
  rw [Int.natCast_mul, ← P2_nat, Bp]
  have h3 : (A : Int) * P2 s ≤ (A : Int) * 4294967296 := Int.mul_le_mul_of_nonneg_left (by omega) (by omega)
  have h4 : (A : Int) * 4294967296 < Bp n * 4294967296 := Int.mul_lt_mul_of_pos_right hA (by omega)
  omega
theorem right_at {v : Value} {N s : Nat} {s' : Int} (w : World) (h : Num w v N) (hN : LtB N 40) (hs : s < 32) (hs' : s' = (s : Int)) :
    Calls Tryz.prog 61 #[v, .int .u64 s'] w fun e w' => Gives (N / 2 ^ s) e w' ∧ Gr w w' := by
  subst hs'
  exact right_any w h hN.lt hs

set_option maxRecDepth 100000 in
set_option maxHeartbeats 8000000 in
theorem div_long {v v' : Value} {A B : Nat} (w : World) (h : Num w v A) (h' : Num w v' B) (hB : 4294967296 ≤ (B : Int)) (hB' : (B : Int) < 18446744073709551616) (hA : Bp 2 ≤ (A : Int)) (hA' : (A : Int) < Bp 40) :
    Calls Tryz.prog 53 #[v, v'] w fun e w' => Gives2 (A / B) (A % B) e w' ∧ Gr w w' := by
  obtain ⟨g', cap', f', rfl, hW', hy, hx, hV', _, _, hV2⟩ := h'.two hB hB'
  obtain ⟨a, n, cap, rfl, hn, _⟩ := h.shape
  have hl := h.long hA
  have hl2 := h.len hA'
  have H := Lib.hid h
  have H' := Lib.hid h'
  have HX : LtB A 40 := ⟨hA'⟩
  have HX' : LtB B 40 := ⟨Int.lt_of_lt_of_le hB' (Bp_mono (show 2 ≤ 40 by omega))⟩
  have HS : Hid (sg (A : Int) (B : Int) = 1) := Lib.hid (sg_gt (by have : Bp 2 = 18446744073709551616 := rfl; omega))
  have HL := Lib.hid (fun u (hu : Gr w u) => length_top u (hW'.gr hu) (by omega) hx.1 (by omega))
  have HSH := Lib.hid (fun (L : Nat) => shift_two (L := L) hV' hy hx.1)
  have HB1 : Hid (∀ L : Nat, 1 ≤ L ∧ 9223372036854775808 ≤ (B : Int) * P2 (32 - L) ∧ (B : Int) * P2 (32 - L) < 18446744073709551616 → ∀ u r, Num u r (B * 2 ^ (32 - L)) → _) := Lib.hid (fun L hL u r hr => hr.two (by rw [Int.natCast_mul, ← P2_nat]; omega) (by rw [Int.natCast_mul, ← P2_nat]; exact hL.2.2))
  have HN : LtB A n := ⟨h.len_lt⟩
  have HA2 : Hid (∀ L : Nat, 1 ≤ L ∧ L ≤ 32 → ∀ u r, Num u r (A * 2 ^ (32 - L)) → _) := Lib.hid (fun L hL u r hr => hr.words (k := n + 1) (Nat.mul_pos (by have : Bp 2 = 18446744073709551616 := rfl; omega) (Nat.two_pow_pos _)) (shl_lt HN.lt (by omega)))
  have HA0 : Hid (0 < A ∧ 0 < B) := Lib.hid (by have : Bp 2 = 18446744073709551616 := rfl; omega)
  have b3 : (2 : Int) < (n : Int) := by omega
  have b5 : (n : Int) ≤ 40 := by omega
  have b6 : ((2 : Int) == 1) = false := rfl
  clear h h' hB hA hA' hB' hW' hy hx hV' hV2
  go_enter Tryz.func53, Tryz.ntmps53
  go_wp2_with (first
    | (go_at_call 56; refine (cmp_any _ H.out H'.out).mono ?_; rintro e w1 ⟨rfl, hg1⟩; rw [HS.out]; have HG1 := Lib.hid hg1; clear hg1)
    | (fail))
  go_at_call 59
  refine (HL.out _ HG1.out).mono ?_
  rintro e w2 ⟨⟨L, rfl, hL, h1, h2⟩, rfl⟩
  have HR := Lib.hid (HSH.out L hL h1 h2)
  have b7 := HR.out.1
  have b8 : (L : Int) ≤ 32 := by omega
  have b9 : (1 : Int) ≤ (L : Int) := by omega
  clear h1 h2 hL
  have HB2 := Lib.hid (HB1.out L HR.out)
  rw [show (((2 : Nat) : Int) - 1) * 32 + (L : Int) = 32 + (L : Int) by omega]
  have HA3 := Lib.hid (HA2.out L ⟨b7, by omega⟩)
  have tok0 := trivial
  have q0 : (32 + (L : Int) - 1) % 32 = (L : Int) - 1 := by omega
  go_wp2_with (first
    | (go_at_call 60; have _ := tok1; go_loud (refine (left_at (s := 32 - L) _ (H.out.gr HGU.out) HX HA0.out.1 (by omega) (by omega)).mono ?_; rintro e w4 ⟨⟨r2, rfl, hr2⟩, hg4⟩; obtain ⟨g2, n2, c2, f2, rfl, hn2, hW2, hV2, hC2⟩ := HA3.out _ _ hr2; have HU4 := Lib.hid (HU.out.gr hg4); have HG4 := Lib.hid (HGV.out.trans hg4); have HV2 := Lib.hid hV2; have HC2 := Lib.hid hC2; have HW2 := Lib.hid hW2; clear hr2 hg4 tok1 hV2 hC2 hW2))
    | (go_at_call 60; have _ := tok0; go_loud (refine (left_at (s := 32 - L) _ (H'.out.gr HG1.out) HX' HA0.out.2 (by omega) (by omega)).mono ?_; rintro e w2 ⟨⟨r, rfl, hr⟩, hg2⟩; obtain ⟨gv, cv, fv, rfl, hWv, hv0, hv1, hVv, hc0, hc1, hV2⟩ := HB2.out _ _ hr; have HG2 := Lib.hid (HG1.out.trans hg2); have HWv := Lib.hid hWv; have HVv := Lib.hid hVv; have HV2v := Lib.hid hV2; have HC0 := Lib.hid hc0; have HC1 := Lib.hid hc1; clear hr hg2 tok0 hWv hVv hV2 hc0 hc1; have tok1 := trivial))
    | (at_make; have _ := tok2; go_loud (refine wpList_make_blk info_u32 (by rfl) _ _ _ (by rfl) (by kernel_rfl) .i64 .i64 _ _ n (by rfl) (by rfl) (by simp) (by simp) (by omega) (by omega) ?_; intro w6 hblk hmk; have HQ := Lib.hid hblk; have HU6 := Lib.hid (HU5.out.gr (hmk _ (Gr.refl _))); have HG6 := Lib.hid (hmk _ HG5.out); have HQ0 := Lib.hid HU5.out.lt; clear hblk hmk tok2))
    | (at_make; go_loud (refine wpList_make_blk info_u32 (by rfl) _ _ _ (by rfl) (by kernel_rfl) .i64 .i64 _ _ (n + 2) (by rfl) (by rfl) (by simp) (by simp) (by omega) (by omega) ?_; intro w3 hblk hmk; have HU := Lib.hid hblk; have HGU := Lib.hid (hmk _ HG2.out); have HGV := Lib.hid (hmk _ (Gr.refl _)); clear hblk hmk))
    | (refine wpList_copy_blk (by rfl) _ _ _ (by rfl) (by rfl) (by kernel_rfl) w2.heap.size (n + 2) _ HU4.out n2 g2 c2 f2 (by rfl) (by rfl) (by omega) HC2.out ?_; intro w5 hblk hgr; have HU5 := Lib.hid hblk; have HG5 := Lib.hid (hgr _ HG4.out (Nat.le_refl _)); clear hblk hgr; have tok2 := trivial)
    | (fail))
  have c0 := HG6.out.cell HC0.out
  have c1 := HG6.out.cell HC1.out
  have hvv : Hid (fv 1 * 4294967296 + fv 0 = (B : Int) * P2 (32 - L)) := Lib.hid (by rw [← HVv.out, Int.natCast_mul, P2_nat])
  have ht : 2147483648 ≤ fv 1 := by have := HR.out.2.1; have := hvv.out; omega
  have hvb : Hid (9223372036854775808 ≤ fv 1 * 4294967296 + fv 0) := Lib.hid (by omega)
  have HI : Hid (DivAt w2 w6 w2.heap.size w5.heap.size n (fv 1 * 4294967296 + fv 0) ((A : Int) * P2 (32 - L)) n) := Lib.hid (by
    refine DivAt.start HU6.out ?_ HQ.out HG6.out HN.lt (by omega) ?_ hvb.out
    · intro i _
      have := HW2.out i
      show 0 ≤ (if i < n2 then f2 i else 0) ∧ (if i < n2 then f2 i else 0) < 4294967296
      split
      · exact this (by assumption)
      · omega
    · rw [V_zeros (m := n2) (by omega) fun i hi _ => if_neg (by omega), V_congr (g := f2) fun i hi => if_pos hi, HV2.out, Int.natCast_mul, P2_nat])
  have b10 : 0 ≤ fv 1 := by omega
  go_quiet (fail)
  have HI := Lib.hid (HI.out.drewN nq)
  have HGQ := Lib.hid HG5.out.size
  generalize w6.drewN nq = w7 at *
  clear c0 c1
  have HY0 := Lib.hid (show 0 ≤ fv 0 ∧ fv 0 < 4294967296 from hv0)
  go_wp2_with (fail)
  generalize hgq : w5.heap.size = gq at *
  have HNE : Hid (w2.heap.size < gq) := HQ0
  go_loopw [18] (fun j wr => ∃ k : Nat, k ≤ n ∧ j = .int .i64 ((k : Int) - 1) ∧ Hid (DivAt w2 wr w2.heap.size gq n (fv 1 * 4294967296 + fv 0) ((A : Int) * P2 (32 - L)) k)) (fun j _ => (intOf j + 1).toNat)
  case atStart => exact ⟨n, Nat.le_refl _, rfl, HI⟩
  case round =>
    obtain ⟨k', hk, rfl, HI⟩ := hrel
    by_cases hlt : 0 < k'
    · obtain ⟨k, rfl⟩ : ∃ k, k' = k + 1 := ⟨k' - 1, by omega⟩
      obtain ⟨u, q, h1, h2, h3, h4, h5, h6, h7, h8, h9⟩ := HI.out
      have e1 : ((k + 1 : Nat) : Int) - 1 = (k : Int) := by omega
      rw [e1]
      clear e1
      have u0 := h2 k (by omega)
      have u1 := h2 (k + 1) (by omega)
      have u2 := h2 (k + 2) (by omega)
      have d0 := h1.cell (i := k) (by omega)
      have d1 := h1.cell (i := k + 1) (by omega)
      have d2 := h1.cell (i := k + 2) (by omega)
      have c0 := h9.cell HC0.out
      have c1 := h9.cell HC1.out
      have h8' : u (k + 2) * 4294967296 + u (k + 1) < fv 1 * 4294967296 + fv 0 := h8
      have HE : Hid (u (k + 1) + u (k + 2) * 4294967296 = u (k + 2) * 4294967296 + u (k + 1)) := Lib.hid (by omega)
      have HS := Lib.hid (Guess.start (top := fv 1) (nx := fv 0) (u0 := u k) (h := u (k + 1) + u (k + 2) * 4294967296) ⟨ht, hv1.2⟩ HY0.out u0 ⟨by omega, by omega⟩)
      have e2 := or_low u1 u2
      have hh : 0 ≤ u (k + 1) + u (k + 2) * 4294967296 ∧ u (k + 1) + u (k + 2) * 4294967296 < 18446744073709551616 := by omega
      have t1 := Int.tdiv_eq_ediv_of_nonneg (b := fv 1) hh.1
      have t2 := Int.tmod_eq_emod_of_nonneg (b := fv 1) hh.1
      have g1 : 0 ≤ (u (k + 1) + u (k + 2) * 4294967296) / fv 1 ∧ (u (k + 1) + u (k + 2) * 4294967296) / fv 1 < 18446744073709551616 := by have := HS.out.cg; omega
      have g2 : 0 ≤ (u (k + 1) + u (k + 2) * 4294967296) % fv 1 ∧ (u (k + 1) + u (k + 2) * 4294967296) % fv 1 < 4294967296 := HS.out.cr
      have k0 : (0 : Int) ≤ (k : Int) := by omega
      have k1 : (k : Int) < (n : Int) := by omega
      have b11 : ¬ fv 1 = 0 := by omega
      have w1' : IntKind.u64.wrap ((u (k + 1) + u (k + 2) * 4294967296) / fv 1) = (u (k + 1) + u (k + 2) * 4294967296) / fv 1 := by rw [IntKind.wrap_u64]; omega
      have w2' : IntKind.u64.wrap ((u (k + 1) + u (k + 2) * 4294967296) % fv 1) = (u (k + 1) + u (k + 2) * 4294967296) % fv 1 := by rw [IntKind.wrap_u64]; omega
      have H1 := Lib.hid h1
      have H2 := Lib.hid h2
      have H3 := Lib.hid h3
      have H4 := Lib.hid h4
      have H5 := Lib.hid h5
      have H6 := Lib.hid h6
      have H7 := Lib.hid h7
      have H8 := Lib.hid h8
      have H9 := Lib.hid h9
      clear h1 h2 h3 h4 h5 h6 h7 h8 h9 h8'
      generalize (u (k + 1) + u (k + 2) * 4294967296) / fv 1 = g at *
      generalize (u (k + 1) + u (k + 2) * 4294967296) % fv 1 = r at *
      go_wp2_with (fail)
      go_quiet (fail)
      go_wp2_with (fail)
      go_quiet (fail)
      rename_i nqa K2 hK2
      have H1 := Lib.hid ((H1.out.drewN nqa).drewN nq)
      have H3 := Lib.hid ((H3.out.drewN nqa).drewN nq)
      have H9 := Lib.hid ((H9.out.drewN nqa).drewN nq)
      generalize (wr.drewN nqa).drewN nq = w8 at *
      clear d0 d1 d2 c0 c1
      have d0 := H1.out.cell (i := k) (by omega)
      have HW := Lib.hid (show (u (k + 1) + u (k + 2) * 4294967296) * 4294967296 + u k = (u (k + 2) * 4294967296 + u (k + 1)) * 4294967296 + u k by rw [HE.out])
      obtain ⟨G, hG⟩ : ∃ G, G = ((u (k + 1) + u (k + 2) * 4294967296) * 4294967296 + u k) / (fv 1 * 4294967296 + fv 0) := ⟨_, rfl⟩
      have HG := Lib.hid hG
      clear hG t1 t2 w1' w2' e2
      go_upto_block 2 with fail
      go_cut [20] (fun s20 wx => s20 = .int .u64 G ∧ wx = w8)
      case first =>
        go_wp2_with fail
        go_loopw [20, 21] (fun s20 s21 wx => ∃ g r : Int, s20 = .int .u64 g ∧ s21 = .int .u64 r ∧ wx = w8 ∧ Hid (Guess (fv 1) (fv 0) (u (k + 1) + u (k + 2) * 4294967296) (u k) g r)) (fun s20 _ _ => (intOf s20).toNat)
        case atStart => exact ⟨g, r, rfl, rfl, rfl, HS⟩
        case round =>
          clear HS g1 g2
          obtain ⟨g, r, rfl, rfl, rfl, HS⟩ := hrel
          have g1 := HS.out.cg
          have g2 := HS.out.cr
          have e2 := or_low u0 g2
          have hgn := Int.mul_nonneg g1.1 HY0.out.1
          by_cases hc : 4294967295 < g
          · have HO := Lib.hid (HS.out.over1 hc)
            go_wp2
            · go_meet
              exact ⟨by rw [HG.out, ← HS.out.stop2 HO.out (by omega)], rfl⟩
            · go_round
              case rel => exact ⟨g - 1, r + fv 1, rfl, rfl, trivial, Lib.hid (HS.out.again HO.out (by omega))⟩
              case measure => simp [intOf]; omega
          · have hgn2 : g * fv 0 ≤ 4294967295 * fv 0 := Int.mul_le_mul_of_nonneg_right (by omega) HY0.out.1
            have hgn3 : g * fv 0 < 18446744073709551616 := by have := HY0.out.2; omega
            clear hgn2
            by_cases hd : u k + r * 4294967296 < g * fv 0
            · have HO := Lib.hid (HS.out.over2 hd)
              have hp := HS.out.pos HO.out
              go_wp2
              · go_meet
                exact ⟨by rw [HG.out, ← HS.out.stop2 HO.out (by omega)], rfl⟩
              · go_round
                case rel => exact ⟨g - 1, r + fv 1, rfl, rfl, trivial, Lib.hid (HS.out.again HO.out (by omega))⟩
                case measure => simp [intOf]; omega
            · have HO := Lib.hid (HS.out.stop1 (by omega))
              go_wp2
              go_meet
              exact ⟨by rw [HG.out, ← HO.out], rfl⟩
      case rest =>
        obtain ⟨rfl, rfl⟩ := hcut
        have HGG : Hid (G * (fv 1 * 4294967296 + fv 0) ≤ (u (k + 2) * 4294967296 + u (k + 1)) * 4294967296 + u k ∧ (u (k + 2) * 4294967296 + u (k + 1)) * 4294967296 + u k < (G + 1) * (fv 1 * 4294967296 + fv 0)) := Lib.hid (by
          rw [HG.out, HW.out]
          exact ⟨Int.ediv_mul_le _ (by have := hvb.out; omega), Int.lt_ediv_add_one_mul_self _ (by have := hvb.out; omega)⟩)
        have hG : 0 ≤ G ∧ G < 4294967296 := by
          rw [HG.out, HW.out]
          have := hvb.out
          have := H8.out
          rw [show k + 1 + 1 = k + 2 from rfl] at this
          exact ⟨Int.ediv_nonneg (by omega) (by omega), Int.ediv_lt_of_lt_mul (by omega) (by omega)⟩
        have HT : Hid (TakeAt w2 wc w2.heap.size gq n u q fv k G 0 0 0) := Lib.hid (.start H1.out H2.out H3.out H9.out)
        clear HS g1 g2 HG HW
        go_wp2_with (fail)
        go_loopw [22, 23, 24] (fun c d i wx => ∃ (m : Nat) (c' d' : Int), m ≤ 2 ∧ c = .int .u64 c' ∧ d = .int .u64 d' ∧ i = .int .i64 m ∧ Hid (TakeAt w2 wx w2.heap.size gq n u q fv k G m c' d')) (fun _ _ i _ => 2 - (intOf i).toNat)
        case atStart => exact ⟨0, 0, 0, by omega, rfl, rfl, rfl, HT⟩
        case round =>
          clear HT H1 H3 H9 d0
          have y1 : 0 ≤ fv 1 ∧ fv 1 < 4294967296 := ⟨b10, hv1.2⟩
          obtain ⟨m, c, d, hm, rfl, rfl, rfl, HT⟩ := hrel
          by_cases hm2 : m < 2
          · obtain ⟨x1, x2, x3, x4⟩ := HT.out.now (by omega)
            have x5 := H2.out (k + m) (by omega)
            have x6 : 0 ≤ fv m ∧ fv m < 4294967296 := by
              rcases m with _ | _ | m
              · exact HY0.out
              · exact y1
              · omega
            have x7 : wr.cell? ⟨gv, m, none⟩ = some (.int .u32 (fv m)) := by
              rcases m with _ | _ | m
              · exact HT.out.gr.cell HC0.out
              · exact HT.out.gr.cell HC1.out
              · omega
            have x8 := mul_word hG x6
            have HTW := Lib.hid (take_word (x := u (k + m)) (p := (c + G * fv m) % 4294967296) (d := d) x5 ⟨by omega, by omega⟩ x4)
            have HNX := Lib.hid (HT.out.step (x := u (k + m)) (p := c + G * fv m) (Nat.le_refl _) (by have := HNE.out; omega) rfl x5 rfl ⟨by omega, by omega⟩ rfl)
            rw [Nat.add_comm k m] at x1 x2 x5 HTW HNX
            have m0 : (0 : Int) ≤ (m : Int) := by omega
            have m1 : (m : Int) < 2 := by omega
            go_wp2
            rw [HTW.out.1, HTW.out.2]
            go_round
            case rel => exact ⟨m + 1, _, _, by omega, rfl, rfl, by go_num, HNX⟩
            case measure => simp [intOf]; omega
          · obtain rfl : m = 2 := by omega
            obtain ⟨x1, x2, x3, x4⟩ := HT.out.now (by omega)
            have hV2 : V fv 2 = fv 1 * 4294967296 + fv 0 := by rw [HV2v.out, HVv.out]
            have hvb2 : fv 1 * 4294967296 + fv 0 < 18446744073709551616 := by rw [hvv.out]; exact HR.out.2.2
            have hcd := HT.out.done (by omega) hV2 hvb2 HGG.out
            have HN := Lib.hid (fun w' => DivAt.step (w' := w') HT.out (by omega) (by have := HNE.out; omega) (Nat.le_refl _) (by have := HNE.out; omega) H4.out H5.out H6.out H7.out hV2 hvb2 hG HGG.out)
            obtain ⟨y1, _, y2⟩ : ∃ y, wr.cell? ⟨gq, k, none⟩ = some (.int .u32 y) ∧ wr.frozen? ⟨gq, k, none⟩ = false := by
              obtain ⟨_, _, _, _, _, _, _, _, z, _⟩ := HT.out
              exact ⟨_, z.cell (by omega), z.free _⟩
            rw [hcd] at x1
            clear hcd hV2 hvb2
            go_wp2
            rw [show c + d - c - d = 0 by omega]
            go_round
            case rel => exact ⟨k, by omega, rfl, Lib.hid (HN.out _ rfl)⟩
            case measure => simp [intOf]
    · obtain rfl : k' = 0 := by omega
      obtain ⟨⟨q, hq1, hq2⟩, u, hu1, hu2⟩ := HI.out.last (by omega) hvv.out HA0.out.2
      have HQ1 := Lib.hid hq1
      have HQ2 := Lib.hid hq2
      have HU1 := Lib.hid hu1
      have HU2 := Lib.hid hu2
      have HG7 := Lib.hid (HG2.out.trans HI.out.gr)
      clear hq1 hq2 hu1 hu2
      have HM : LtB (A % B * 2 ^ (32 - L)) 40 := ⟨by
        have h1 := Nat.mod_lt A HA0.out.2
        have h2 : A % B * 2 ^ (32 - L) ≤ B * 2 ^ (32 - L) := Nat.mul_le_mul_right _ (by omega)
        have h3 := HR.out.2.2
        rw [P2_nat] at h3
        have h4 : ((A % B * 2 ^ (32 - L) : Nat) : Int) ≤ ((B * 2 ^ (32 - L) : Nat) : Int) := by omega
        rw [Int.natCast_mul B] at h4
        exact Int.lt_of_lt_of_le (Int.lt_of_le_of_lt h4 h3) (Bp_mono (show 2 ≤ 40 by omega))⟩
      have HD : Hid (A % B * 2 ^ (32 - L) / 2 ^ (32 - L) = A % B) := Lib.hid (Nat.mul_div_cancel _ (Nat.two_pow_pos _))
      have tok3 := trivial
      go_wp2_with (first
        | (go_at_call 58; have _ := tok3; refine (trim_any _ HQ1.out HQ2.out).mono ?_; rintro e w' ⟨⟨r3, rfl, hr3⟩, rfl⟩; have HR3 := Lib.hid hr3; clear hr3 tok3; have tok4 := trivial)
        | (go_at_call 58; have _ := tok4; refine (trim_any _ HU1.out HU2.out).mono ?_; rintro e w' ⟨⟨r4, rfl, hr4⟩, rfl⟩; have HR4 := Lib.hid hr4; clear hr4 tok4; have tok5 := trivial)
        | (go_at_call 61; have _ := tok5; refine (right_at (s := 32 - L) _ HR4.out HM (by omega) (by omega)).mono ?_; rintro e w' ⟨⟨r5, rfl, hr5⟩, hg5⟩; have HR5 := Lib.hid hr5; have HG8 := Lib.hid hg5; clear hr5 hg5 tok5)
        | fail)
      go_ret2
      exact ⟨.mk (HR3.out.gr HG8.out) (by rw [← HD.out]; exact HR5.out), HG7.out.trans HG8.out⟩
end Go.Proofs.YtgifghbnpdanhaaGreatDoor

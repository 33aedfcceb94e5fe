/-
  millracebig's words: add, sub.
-/
import Derived.Test.YtogmjjaoflaogaaDoorBigA
namespace Go.Proofs.YtogmjjaoflaogaaDoor
open Go.RowKit

theorem info_u32 : (Tryd.prog.info? 139).map (fun i => (i.zero, i.size, i.bytes)) = some (some (.int .u32 0), 1, 4) := by kernel_rfl

/-- The sum's state behind k words. -/
def AddAt (w0 w : World) (g n n' : Nat) (f f' : Nat → Int) (k : Nat) (c : Int) : Prop :=
  ∃ r, Blk .u32 139 w g (n + 1) r ∧ W32 r (n + 1) ∧ (∀ j, k ≤ j → r j = 0) ∧ V r (n + 1) + c * Bp k = V f k + V (ext f' n') k ∧ ∀ u, Gr u w0 → Gr u w
theorem AddAt.start {w0 w : World} {g n n' : Nat} {f f' : Nat → Int} (hb : Blk .u32 139 w g (n + 1) fun _ => 0) (hg : ∀ u, Gr u w0 → Gr u w) : AddAt w0 w g n n' f f' 0 0 :=
  ⟨_, hb, fun _ _ => ⟨Int.le_refl _, by show (0 : Int) < _; omega⟩, fun _ _ => rfl, by rw [V_zeros (Nat.zero_le _) fun _ _ _ => rfl]; simp [V], hg⟩
theorem AddAt.step {w0 w : World} {g n n' : Nat} {f f' : Nat → Int} {k : Nat} {c x : Int} (h : AddAt w0 w g n n' f f' k c) (hk : k < n) (hg : w0.heap.size ≤ g) (hx : x = c + f k + ext f' n' k) :
    AddAt w0 (w.setCell ⟨g, k, none⟩ (.int .u32 (x % 4294967296))) g n n' f f' (k + 1) (x / 4294967296) := by
  obtain ⟨r, h1, h2, h3, h4, h5⟩ := h
  refine ⟨upd r k (x % 4294967296), h1.set _ _, h2.upd (by omega), fun j hj => ?_, ?_, fun u hu => (h5 u hu).setCell (by have := hu.size; simp; omega) _⟩
  · rw [upd_ne _ _ (by omega)]; exact h3 j (by omega)
  · have e1 : V f (k + 1) = V f k + f k * Bp k := rfl
    have e2 : V (ext f' n') (k + 1) = V (ext f' n') k + ext f' n' k * Bp k := rfl
    have e3 := add_step (r := V r (n + 1)) (c := c) (x := x) (p := Bp k)
    rw [V_upd (by omega), h3 k (Nat.le_refl _), Int.sub_zero, Bp, e3, e1, e2, h4, hx]
    grind
theorem AddAt.cell {w0 w : World} {g n n' : Nat} {f f' : Nat → Int} {k : Nat} {c : Int} (h : AddAt w0 w g n n' f f' k c) {p : Addr} {v : Value} (hp : w0.cell? p = some v) : w.cell? p = some v := by
  obtain ⟨r, _, _, _, _, h5⟩ := h
  exact (h5 w0 (Gr.refl _)).cell hp
theorem AddAt.free {w0 w : World} {g n n' : Nat} {f f' : Nat → Int} {k : Nat} {c : Int} (h : AddAt w0 w g n n' f f' k c) (j : Nat) (hj : j < n + 1) : (∃ x, w.cell? ⟨g, j, none⟩ = some (.int .u32 x)) ∧ w.frozen? ⟨g, j, none⟩ = false := by
  obtain ⟨r, h1, _⟩ := h
  exact ⟨⟨_, h1.cell hj⟩, h1.free j⟩
theorem AddAt.last {w0 w : World} {g n n' : Nat} {f f' : Nat → Int} {c : Int} (h : AddAt w0 w g n n' f f' n c) (hn : n' ≤ n) (hg : w0.heap.size ≤ g) (hb : n ≤ 100) (hc : 0 ≤ c ∧ c < 4294967296) :
    ∃ r, Wds (w.setCell ⟨g, n, none⟩ (.int .u32 c)) (.slice (some ⟨g, 0, none⟩) (n + 1) (n + 1)) (n + 1) r ∧ V r (n + 1) = V f n + V f' n' ∧ ∀ u, Gr u w0 → Gr u (w.setCell ⟨g, n, none⟩ (.int .u32 c)) := by
  obtain ⟨r, h1, h2, h3, h4, h5⟩ := h
  refine ⟨upd r n c, (h1.set _ _).wds (by omega) (h2.upd hc), ?_, fun u hu => (h5 u hu).setCell (by have := hu.size; simp; omega) _⟩
  rw [V_upd (by omega), h3 n (Nat.le_refl _), Int.sub_zero, h4, V_ext hn]

set_option maxRecDepth 100000 in
set_option maxHeartbeats 4000000 in
theorem add_long {v v' : Value} {n n' : Nat} {f f' : Nat → Int} {A B : Nat} (w : World) (h : Wds w v n f) (h' : Wds w v' n' f') (hn : n' ≤ n) (hb : n ≤ 100) (hA : V f n = (A : Int)) (hB : V f' n' = (B : Int)) (sw : Bool) (hs : sw = true → n' < n) :
    Calls Tryd.prog 86 #[if sw then v' else v, if sw then v else v'] w fun e w' => Gives (A + B) e w' ∧ Gr w w' := by
  have HF := Lib.hid h.w32
  have HF' := Lib.hid h'.w32
  have HA := Lib.hid hA
  have HB := Lib.hid hB
  obtain ⟨a, cap, rfl, ⟨hcap, _⟩, hA1, _⟩ := h
  obtain ⟨a', cap', rfl, ⟨hcap', _⟩, hA2, _⟩ := h'
  have HA1 := Lib.hid hA1
  have HA2 := Lib.hid hA2
  clear hA1 hA2 hA hB
  have b1 : (n : Int) ≤ 100 := by omega
  have b2 : (n' : Int) ≤ (n : Int) := by omega
  have b3 : sw = true → (n' : Int) < (n : Int) := fun e => by have := hs e; omega
  clear hs
  cases sw
  all_goals
    (try (have b4 := b3 rfl))
    clear b3
    simp only [Bool.false_eq_true, if_false, if_true]
    go_enter Tryd.func86, Tryd.ntmps86
    go_wp2_with (at_make; refine wpList_make_blk info_u32 (by rfl) _ _ _ (by rfl) (by kernel_rfl) .i64 .i64 _ _ (n + 1) (by rfl) (by rfl) (by simp) (by simp) (by omega) (by omega) ?_; intro w1 hblk hmk)
    have HI : Hid (AddAt w w1 w.heap.size n n' f f' 0 0) := Lib.hid (.start hblk hmk)
    clear hblk hmk
    go_loopw [6, 7] (fun c i wr => ∃ k : Nat, k ≤ n ∧ i = .int .i64 k ∧ ∃ x : Int, c = .int .u64 x ∧ (0 ≤ x ∧ x ≤ 1) ∧ Hid (AddAt w wr w.heap.size n n' f f' k x)) (fun _ i _ => n - (intOf i).toNat)
    case atStart => exact ⟨0, Nat.zero_le _, rfl, 0, rfl, by omega, HI⟩
    case round =>
      obtain ⟨k, hk, rfl, x, rfl, hx, HI⟩ := hrel
      by_cases hlt : k < n
      · obtain ⟨g, rfl, hC⟩ := HA1.out (by omega)
        have c0 := HI.out.cell (hC k hlt)
        have x0 := HF.out k hlt
        have x1 := HI.out.free k (by omega)
        obtain ⟨⟨y, x1⟩, x2⟩ := x1
        clear hC
        have k0 : (0 : Int) ≤ (k : Int) := by omega
        have k1 : (k : Int) < (n : Int) := by omega
        by_cases hlt' : k < n'
        · obtain ⟨g', rfl, hC'⟩ := HA2.out (by omega)
          have c1 := HI.out.cell (hC' k hlt')
          have x3 := HF'.out k hlt'
          clear hC'
          have k2 : (k : Int) < (n' : Int) := by omega
          have HE := Lib.hid (ext_in (f := f') hlt')
          have HX : Hid (AddAt w (wr.setCell ⟨w.heap.size, k, none⟩ (.int .u32 ((x + f k + f' k) % 4294967296))) w.heap.size n n' f f' (k + 1) ((x + f k + f' k) / 4294967296)) := Lib.hid (HI.out.step hlt (Nat.le_refl _) (by rw [HE.out]))
          generalize f k = y at *
          generalize f' k = y' at *
          go_wp2
          go_roundw
          case rel => exact ⟨k + 1, by omega, by go_num, _, rfl, by omega, HX⟩
          case measure => simp [intOf] <;> omega
        · have k2 : (n' : Int) ≤ (k : Int) := by omega
          have HE := Lib.hid (ext_out (f := f') (Nat.le_of_not_lt hlt'))
          have HX : Hid (AddAt w (wr.setCell ⟨w.heap.size, k, none⟩ (.int .u32 ((x + f k) % 4294967296))) w.heap.size n n' f f' (k + 1) ((x + f k) / 4294967296)) := Lib.hid (HI.out.step hlt (Nat.le_refl _) (by rw [HE.out, Int.add_zero]))
          generalize f k = y at *
          go_wp2
          go_roundw
          case rel => exact ⟨k + 1, by omega, by go_num, _, rfl, by omega, HX⟩
          case measure => simp [intOf] <;> omega
      · obtain rfl : k = n := by omega
        obtain ⟨⟨y, x1⟩, x2⟩ := HI.out.free k (by omega)
        obtain ⟨r, hw, hv, hg⟩ := HI.out.last hn (Nat.le_refl _) hb (by omega)
        have HW := Lib.hid hw
        have HV := Lib.hid (show V r (k + 1) = ((A + B : Nat) : Int) by rw [hv, HA.out, HB.out]; simp)
        have HG := Lib.hid (hg w (Gr.refl _))
        clear hw hv hg
        have HM : Hid (x % 4294967296 = x) := Lib.hid (by omega)
        go_wp2_with (go_at_call 76; refine (trim_any _ HW.out HV.out).mono ?_; rintro e w' ⟨⟨r', rfl, hr⟩, rfl⟩)
        go_ret
        exact ⟨.mk hr, HG.out⟩
/-- The sum of two numbers. -/
theorem add_any {v v' : Value} {A B : Nat} (w : World) (h : Num w v A) (h' : Num w v' B) (hA : (A : Int) < Bp 40) (hB : (B : Int) < Bp 40) :
    Calls Tryd.prog 86 #[v, v'] w fun e w' => Gives (A + B) e w' ∧ Gr w w' := by
  obtain ⟨n, f, h1, h2, h3⟩ := h
  obtain ⟨n', f', h4, h5, h6⟩ := h'
  have l1 := len_of_lt h1.w32 h2 (by rw [h3]; exact hA)
  have l2 := len_of_lt h4.w32 h5 (by rw [h6]; exact hB)
  rcases Nat.lt_or_ge n n' with hl | hl
  · have := add_long w h4 h1 (by omega) (by omega) h6 h3 true (fun _ => hl)
    rw [Nat.add_comm] at this
    exact this
  · exact add_long w h1 h4 hl (by omega) h3 h6 false (fun e => absurd e (by decide))

/-- The difference's state behind k words. -/
def SubAt (w0 w : World) (g n n' : Nat) (f f' : Nat → Int) (k : Nat) (c : Int) : Prop :=
  ∃ r, Blk .u32 139 w g n r ∧ W32 r n ∧ (∀ j, k ≤ j → r j = 0) ∧ V r n - c * Bp k = V f k - V (ext f' n') k ∧ ∀ u, Gr u w0 → Gr u w
theorem SubAt.start {w0 w : World} {g n n' : Nat} {f f' : Nat → Int} (hb : Blk .u32 139 w g n fun _ => 0) (hg : ∀ u, Gr u w0 → Gr u w) : SubAt w0 w g n n' f f' 0 0 :=
  ⟨_, hb, fun _ _ => ⟨Int.le_refl _, by show (0 : Int) < _; omega⟩, fun _ _ => rfl, by rw [V_zeros (Nat.zero_le _) fun _ _ _ => rfl]; simp [V], hg⟩
theorem SubAt.step {w0 w : World} {g n n' : Nat} {f f' : Nat → Int} {k : Nat} {c x c' : Int} (h : SubAt w0 w g n n' f f' k c) (hk : k < n) (hg : w0.heap.size ≤ g) (hx : 0 ≤ x ∧ x < 4294967296) (he : x - c' * 4294967296 = f k - c - ext f' n' k) :
    SubAt w0 (w.setCell ⟨g, k, none⟩ (.int .u32 x)) g n n' f f' (k + 1) c' := by
  obtain ⟨r, h1, h2, h3, h4, h5⟩ := h
  refine ⟨upd r k x, h1.set _ _, h2.upd hx, fun j hj => ?_, ?_, fun u hu => (h5 u hu).setCell (by have := hu.size; simp; omega) _⟩
  · rw [upd_ne _ _ (by omega)]; exact h3 j (by omega)
  · have e1 : V f (k + 1) = V f k + f k * Bp k := rfl
    have e2 : V (ext f' n') (k + 1) = V (ext f' n') k + ext f' n' k * Bp k := rfl
    rw [V_upd (by omega), h3 k (Nat.le_refl _), Int.sub_zero, Bp, e1, e2]
    generalize Bp k = p at *
    generalize ext f' n' k = y at *
    generalize V (ext f' n') k = z at *
    grind
theorem SubAt.cell {w0 w : World} {g n n' : Nat} {f f' : Nat → Int} {k : Nat} {c : Int} (h : SubAt w0 w g n n' f f' k c) {p : Addr} {v : Value} (hp : w0.cell? p = some v) : w.cell? p = some v := by
  obtain ⟨r, _, _, _, _, h5⟩ := h
  exact (h5 w0 (Gr.refl _)).cell hp
theorem SubAt.free {w0 w : World} {g n n' : Nat} {f f' : Nat → Int} {k : Nat} {c : Int} (h : SubAt w0 w g n n' f f' k c) (j : Nat) (hj : j < n) : (∃ x, w.cell? ⟨g, j, none⟩ = some (.int .u32 x)) ∧ w.frozen? ⟨g, j, none⟩ = false := by
  obtain ⟨r, h1, _⟩ := h
  exact ⟨⟨_, h1.cell hj⟩, h1.free j⟩
theorem SubAt.last {w0 w : World} {g n n' : Nat} {f f' : Nat → Int} {c : Int} (h : SubAt w0 w g n n' f f' n c) (hn : n' ≤ n) (hb : n ≤ 100) (hc : 0 ≤ c ∧ c ≤ 1) (hle : V f' n' ≤ V f n) :
    ∃ r, Wds w (.slice (some ⟨g, 0, none⟩) n n) n r ∧ V r n = V f n - V f' n' ∧ ∀ u, Gr u w0 → Gr u w := by
  obtain ⟨r, h1, h2, h3, h4, h5⟩ := h
  refine ⟨r, h1.wds (by omega) h2, ?_, h5⟩
  rw [V_ext hn] at h4
  have := V_in h2
  have hc' : c = 0 ∨ c = 1 := by omega
  rcases hc' with rfl | rfl
  · omega
  · omega

set_option maxRecDepth 100000 in
set_option maxHeartbeats 4000000 in
theorem sub_any {v v' : Value} {A B : Nat} (w : World) (h : Num w v A) (h' : Num w v' B) (hA : (A : Int) < Bp 40) (hle : B ≤ A) :
    Calls Tryd.prog 87 #[v, v'] w fun e w' => Gives (A - B) e w' ∧ Gr w w' := by
  obtain ⟨n, f, hW, hT, hV⟩ := h
  obtain ⟨n', f', hW', hT', hV'⟩ := h'
  have l1 := len_of_lt hW.w32 hT (by rw [hV]; exact hA)
  have l2 : n' ≤ n := by
    rcases Nat.lt_or_ge n n' with h1 | h1
    · have := V_len_lt hW.w32 hW'.w32 hT' h1
      omega
    · exact h1
  have HF := Lib.hid hW.w32
  have HF' := Lib.hid hW'.w32
  have HV := Lib.hid hV
  have HV' := Lib.hid hV'
  obtain ⟨a, cap, rfl, ⟨hcap, _⟩, hA1, _⟩ := hW
  obtain ⟨a', cap', rfl, ⟨hcap', _⟩, hA2, _⟩ := hW'
  have HA1 := Lib.hid hA1
  have HA2 := Lib.hid hA2
  clear hA1 hA2 hT hT' hV hV' hA
  have b1 : (n : Int) ≤ 100 := by omega
  have b2 : (n' : Int) ≤ (n : Int) := by omega
  go_enter Tryd.func87, Tryd.ntmps87
  go_wp2_with (at_make; refine wpList_make_blk info_u32 (by rfl) _ _ _ (by rfl) (by kernel_rfl) .i64 .i64 _ _ n (by rfl) (by rfl) (by simp) (by simp) (by omega) (by omega) ?_; intro w1 hblk hmk)
  have HI : Hid (SubAt w w1 w.heap.size n n' f f' 0 0) := Lib.hid (.start hblk hmk)
  clear hblk hmk
  go_loopw [6, 7] (fun c i wr => ∃ k : Nat, k ≤ n ∧ i = .int .i64 k ∧ ∃ x : Int, c = .int .u64 x ∧ (0 ≤ x ∧ x ≤ 1) ∧ Hid (SubAt w wr w.heap.size n n' f f' k x)) (fun _ i _ => n - (intOf i).toNat)
  case atStart => exact ⟨0, Nat.zero_le _, rfl, 0, rfl, by omega, HI⟩
  case round =>
    obtain ⟨k, hk, rfl, x, rfl, hx, HI⟩ := hrel
    by_cases hlt : k < n
    · obtain ⟨g, rfl, hC⟩ := HA1.out (by omega)
      have c0 := HI.out.cell (hC k hlt)
      have x0 := HF.out k hlt
      obtain ⟨⟨y0, x1⟩, x2⟩ := HI.out.free k (by omega)
      clear hC
      have k0 : (0 : Int) ≤ (k : Int) := by omega
      have k1 : (k : Int) < (n : Int) := by omega
      by_cases hlt' : k < n'
      · obtain ⟨g', rfl, hC'⟩ := HA2.out (by omega)
        have c1 := HI.out.cell (hC' k hlt')
        have x3 := HF'.out k hlt'
        clear hC'
        have k2 : (k : Int) < (n' : Int) := by omega
        have HE := Lib.hid (ext_in (f := f') hlt')
        have HX := Lib.hid (fun X C h1 h2 => HI.out.step (x := X) (c' := C) hlt (Nat.le_refl _) h1 h2)
        generalize f k = y at *
        generalize f' k = y' at *
        go_wp2
        go_roundw
        case rel =>
          refine ⟨k + 1, by omega, by go_num, _, rfl, ?_, Lib.hid (HX.out _ _ ?_ ?_)⟩
          · rw [IntKind.wrap_u64, IntKind.wrap_u64]; omega
          · omega
          · rw [HE.out, IntKind.wrap_u64, IntKind.wrap_u64]; omega
        case measure => simp [intOf] <;> omega
      · have k2 : (n' : Int) ≤ (k : Int) := by omega
        have HE := Lib.hid (ext_out (f := f') (Nat.le_of_not_lt hlt'))
        have HX := Lib.hid (fun X C h1 h2 => HI.out.step (x := X) (c' := C) hlt (Nat.le_refl _) h1 h2)
        generalize f k = y at *
        go_wp2
        go_roundw
        case rel =>
          refine ⟨k + 1, by omega, by go_num, _, rfl, ?_, Lib.hid (HX.out _ _ ?_ ?_)⟩
          · rw [IntKind.wrap_u64]; omega
          · omega
          · rw [HE.out, IntKind.wrap_u64]; omega
        case measure => simp [intOf] <;> omega
    · obtain rfl : k = n := by omega
      obtain ⟨r, hw, hv, hg⟩ := HI.out.last l2 (by omega) hx (by rw [HV.out, HV'.out]; omega)
      have HW := Lib.hid hw
      have HR := Lib.hid (show V r k = ((A - B : Nat) : Int) by rw [hv, HV.out, HV'.out]; omega)
      have HG := Lib.hid (hg w (Gr.refl _))
      clear hw hv hg
      go_wp2_with (go_at_call 76; refine (trim_any _ HW.out HR.out).mono ?_; rintro e w' ⟨⟨r', rfl, hr⟩, rfl⟩)
      go_ret
      exact ⟨.mk hr, HG.out⟩
end Go.Proofs.YtogmjjaoflaogaaDoor

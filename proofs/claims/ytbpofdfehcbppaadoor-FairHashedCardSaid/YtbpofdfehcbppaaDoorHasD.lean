/-
  slices.DeleteFunc over a row of ints, one element struck. (Printed by genhas.py.)
-/
import Derived.Test.YtbpofdfehcbppaaDoorHasC
import Derived.Lib.SliceRun
namespace Go.Proofs.YtbpofdfehcbppaaDoor
open Go.RowKit Go.Extern.Stop Go.Stop Go.Extern

theorem frozen_row (w : World) (g i : Nat) (cur : Array Value) (T : TypeId) (h : w.heap[g]? = some (.cells cur T (0, 0))) : w.frozen? ⟨g, i, none⟩ = false := by
  simp [World.frozen?, h]
/-- An element of a row is written. -/
theorem IntRow.put {w : World} {g off n cap : Nat} {xs : List Int} (h : IntRow w (.slice (some ⟨g, off, none⟩) n cap) xs) (j : Nat) (hj : j < xs.length) (y : Int) :
    IntRow (w.setCell ⟨g, off + j, none⟩ (.int .i64 y)) (.slice (some ⟨g, off, none⟩) n cap) (xs.set j y) := by
  have hn : n = xs.length := by obtain ⟨a, c, e⟩ := h.shape; cases e; rfl
  subst hn
  rcases h.2 with ⟨h0, _⟩ | ⟨g', off', cap', cur, h0, h1, h2, h3, h4, h5, h6⟩
  · cases h0
  · cases h0
    have hcs : off + j < cur.size := by omega
    obtain ⟨⟨cur', a1, a2, a3⟩, _⟩ := setCells_heap g 3 [Value.int .i64 y] (off + j) w cur h1 (by simp; omega)
    simp only [World.setCells] at a1
    refine ⟨by simp, .inr ⟨g, off, cap, cur', by simp, a1, by simpa using h2, h3, by rw [a2]; exact h4, fun i u hu => ?_, fun i hi => ?_⟩⟩
    · rw [a3] at hu
      split at hu
      · rename_i hc
        obtain rfl : i = off + j := by simp at hc; omega
        simp at hu
        exact ⟨y, hu.symm⟩
      · exact h5 i u hu
    · rw [a3]
      simp only [List.length_set, Nat.mul_one] at hi
      by_cases hij : i = j
      · subst hij
        rw [if_pos (by simp)]
        simp [hi]
      · rw [if_neg (by simp; omega), h6 i (by omega)]
        simp [Ne.symm hij]
theorem IntRow.first {w : World} {g off n cap k : Nat} {xs : List Int} (h : IntRow w (.slice (some ⟨g, off, none⟩) n cap) xs) (hk : k ≤ xs.length) : IntRow w (.slice (some ⟨g, off, none⟩) k cap) (xs.take k) := by
  have hn : n = xs.length := by obtain ⟨a, c, e⟩ := h.shape; cases e; rfl
  subst hn
  rcases h.2 with ⟨h0, _⟩ | ⟨g', off', cap', cur, h0, h1, h2, h3, h4, h5, h6⟩
  · cases h0
  · cases h0
    refine ⟨by simp, .inr ⟨g, off, cap, cur, by simp [hk], h1, by simp; omega, h3, h4, h5, fun i hi => ?_⟩⟩
    simp only [List.length_take, Nat.mul_one] at hi
    rw [h6 i (by omega)]
    simp [show i < k by omega]
theorem IntRow.at {w : World} {g off n cap : Nat} {xs : List Int} (h : IntRow w (.slice (some ⟨g, off, none⟩) n cap) xs) : n = xs.length ∧ n ≤ cap ∧ cap ≤ maxLen ∧ (∀ j y, xs[j]? = some y → w.cell? ⟨g, off + j, none⟩ = some (.int .i64 y)) ∧ ∀ j, w.frozen? ⟨g, j, none⟩ = false := by
  have hn : n = xs.length := by obtain ⟨a, c, e⟩ := h.shape; cases e; rfl
  subst hn
  rcases h.2 with ⟨h0, _⟩ | ⟨g', off', cap', cur, h0, h1, h2, h3, h4, h5, h6⟩
  · cases h0
  · cases h0
    refine ⟨rfl, h2, h3, fun j y hy => ?_, fun j => frozen_row w g j cur _ h1⟩
    have hj : j < xs.length := (List.getElem?_eq_some_iff.1 hy).1
    rw [cell_of_row w g (off + j) cur 3 (0, 0) h1, h6 j (by omega)]
    simp [hy]
/-- The rows in the midst of striking the i-th: j elements were seen. -/
def midRow (xs : List Int) (i j : Nat) : List Int := (xs.eraseIdx i).take (j - 1) ++ xs.drop (j - 1)
theorem midRow_at (xs : List Int) (i : Nat) : midRow xs i (i + 1) = xs := by
  unfold midRow
  rw [Nat.add_sub_cancel]
  have : (xs.eraseIdx i).take i = xs.take i := by
    apply List.ext_getElem?
    intro t
    rw [List.getElem?_take, List.getElem?_take]
    split
    · rename_i h; rw [List.getElem?_eraseIdx_of_lt h]
    · rfl
  rw [this, List.take_append_drop]
theorem midRow_len (xs : List Int) (i j : Nat) (hi : i < xs.length) (hj : i < j) (hj2 : j ≤ xs.length) : (midRow xs i j).length = xs.length := by
  unfold midRow
  rw [List.length_append, List.length_take, List.length_drop, List.length_eraseIdx_of_lt hi]
  omega
theorem midRow_get (xs : List Int) (i j : Nat) (hi : i < xs.length) (hj2 : j < xs.length) : (midRow xs i j)[j]? = xs[j]? := by
  unfold midRow
  rw [List.getElem?_append_right (by rw [List.length_take, List.length_eraseIdx_of_lt hi]; omega), List.length_take, List.length_eraseIdx_of_lt hi, List.getElem?_drop]
  congr 1
  omega
theorem midRow_set (xs : List Int) (i j : Nat) (y : Int) (hi : i < xs.length) (hj : i < j) (hj2 : j < xs.length) (hy : xs[j]? = some y) : (midRow xs i j).set (j - 1) y = midRow xs i (j + 1) := by
  apply List.ext_getElem?
  intro t
  have h1 := midRow_len xs i j hi hj (by omega)
  have h2 : (xs.eraseIdx i)[j - 1]? = some y := by
    rw [List.getElem?_eraseIdx_of_ge (by omega), show j - 1 + 1 = j by omega, hy]
  rw [List.getElem?_set]
  have e1 : ((xs.eraseIdx i).take (j - 1)).length = j - 1 := by rw [List.length_take, List.length_eraseIdx_of_lt hi]; omega
  have e2 : ((xs.eraseIdx i).take j).length = j := by rw [List.length_take, List.length_eraseIdx_of_lt hi]; omega
  unfold midRow at h1 ⊢
  rw [Nat.add_sub_cancel]
  by_cases ht : j - 1 = t
  · subst ht
    rw [if_pos rfl, if_pos (by omega), List.getElem?_append_left (by omega), List.getElem?_take, if_pos (by omega), h2]
  · rw [if_neg ht]
    by_cases ht2 : t < j - 1
    · rw [List.getElem?_append_left (by omega), List.getElem?_append_left (by omega), List.getElem?_take, List.getElem?_take, if_pos ht2, if_pos (by omega)]
    · rw [List.getElem?_append_right (by omega), List.getElem?_append_right (by omega), e1, e2, List.getElem?_drop, List.getElem?_drop]
      congr 1
      omega
theorem midRow_end (xs : List Int) (i : Nat) (hi : i < xs.length) : (midRow xs i xs.length).take (xs.length - 1) = xs.eraseIdx i := by
  unfold midRow
  have e : (xs.eraseIdx i).length = xs.length - 1 := List.length_eraseIdx_of_lt hi
  rw [List.take_append_of_le_length (by rw [List.length_take]; omega), List.take_take, Nat.min_self, List.take_of_length_le (by omega)]
set_option maxRecDepth 100000 in
theorem isit_any (b : Nat) (m y : Int) (w : World) (h : w.cell? ⟨b, 0, none⟩ = some (.int .i64 m)) :
    Calls Tryd.prog 123 #[.int .i64 y, .pointer (some ⟨b, 0, none⟩)] w fun e w' => e = .returned (.bool (decide (y = m))) ∧ w = w' := by
  go_enter Tryd.func123, Tryd.ntmps123
  go_wp2
  all_goals
    go_ret
    exact ⟨by show Ending.returned (Value.bool (y == m)) = _; by_cases e : y = m <;> simp [e], rfl⟩
theorem isit_yes (b : Nat) (m : Int) (w : World) (h : w.cell? ⟨b, 0, none⟩ = some (.int .i64 m)) :
    Calls Tryd.prog 123 #[.int .i64 m, .pointer (some ⟨b, 0, none⟩)] w fun e w' => e = .returned (.bool true) ∧ w = w' := by
  have h1 := isit_any b m m w h
  rw [decide_eq_true rfl] at h1
  exact h1
theorem isit_no (b : Nat) (m y : Int) (w : World) (h : w.cell? ⟨b, 0, none⟩ = some (.int .i64 m)) (hne : y ≠ m) :
    Calls Tryd.prog 123 #[.int .i64 y, .pointer (some ⟨b, 0, none⟩)] w fun e w' => e = .returned (.bool false) ∧ w = w' := by
  have h1 := isit_any b m y w h
  rw [decide_eq_false hne] at h1
  exact h1
set_option maxRecDepth 100000 in
set_option maxHeartbeats 4000000 in
theorem iindex_any (g off cap b : Nat) (m : Int) (xs : List Int) (i : Nat) (hi : xs[i]? = some m) (hne : ∀ j, j < i → xs[j]? ≠ some m) (hn : xs.length ≤ 1000) (w : World) (h : IntRow w (.slice (some ⟨g, off, none⟩) xs.length cap) xs) (hb : w.cell? ⟨b, 0, none⟩ = some (.int .i64 m)) :
    Calls Tryd.prog 44 #[.slice (some ⟨g, off, none⟩) xs.length cap, .func (.func 123) #[] #[.pointer (some ⟨b, 0, none⟩)]] w fun e w' => e = .returned (.int .i64 (i : Int)) ∧ w = w' := by
  have hc := h.at.2.2.2.1
  have HC := Lib.hid hc
  have HNE := Lib.hid hne
  have HI := Lib.hid hi
  have HN := Lib.hid hn
  have hil : i < xs.length := (List.getElem?_eq_some_iff.1 hi).1
  have HCL := Lib.hid (fun y => isit_any b m y w hb)
  clear h hc hne hi hb
  go_enter Tryd.func44, Tryd.ntmps44
  go_wp2
  go_loop [8] (fun s8 => ∃ (j : Nat), s8 = .int .i64 (j : Int) ∧ j ≤ i) (fun s => xs.length - (intOf s).toNat)
  case atStart => exact ⟨0, rfl, Nat.zero_le _⟩
  case round =>
    obtain ⟨j, rfl, hj⟩ := hrel
    have i0 : (0 : Int) ≤ (j : Int) := by omega
    have i1 : (j : Int) < (xs.length : Int) := by omega
    obtain ⟨y, hy⟩ : ∃ y, xs[j]? = some y := ⟨_, List.getElem?_eq_getElem (by omega)⟩
    have c0 := HC.out j y hy
    by_cases hji : j = i
    · subst hji
      obtain rfl : y = m := by have h1 := HI.out; rw [hy] at h1; exact Option.some.inj h1
      have hd : decide (y = y) = true := by simp
      go_wp2_with (go_at_call 123; refine (HCL.out y).mono ?_; rw [hd]; rintro e w1 ⟨rfl, rfl⟩)
      go_ret
      exact ⟨rfl, rfl⟩
    · have hym : decide (y = m) = false := decide_eq_false (fun e => HNE.out j (by omega) (by rw [hy, e]))
      have HWR := Lib.hid (show wrap64 ((j : Int) + 1) = (j : Int) + 1 from by have := HN.out; unfold wrap64; omega)
      go_wp2_with (go_at_call 123; refine (HCL.out y).mono ?_; rw [hym]; rintro e w1 ⟨rfl, rfl⟩)
      go_round
      case rel => exact ⟨j + 1, by go_num, by omega⟩
      case measure => simp [intOf]; omega
set_option maxRecDepth 100000 in
set_option maxHeartbeats 4000000 in
theorem idelete_any (g off cap b : Nat) (m : Int) (xs : List Int) (i : Nat) (hi : xs[i]? = some m) (hne : ∀ j, j ≠ i → xs[j]? ≠ some m) (hn : xs.length ≤ 1000) (w : World) (h : IntRow w (.slice (some ⟨g, off, none⟩) xs.length cap) xs) (hb : w.cell? ⟨b, 0, none⟩ = some (.int .i64 m)) (hbg : b ≠ g) :
    Calls Tryd.prog 122 #[.slice (some ⟨g, off, none⟩) xs.length cap, .func (.func 123) #[] #[.pointer (some ⟨b, 0, none⟩)]] w fun e w' => e = .returned (.slice (some ⟨g, off, none⟩) (xs.length - 1) cap) ∧ IntRow w' (.slice (some ⟨g, off, none⟩) (xs.length - 1) cap) (xs.eraseIdx i) ∧ Sav (fun q => q = g) w w' := by
  have hcap := h.at.2.1
  have hil : i < xs.length := (List.getElem?_eq_some_iff.1 hi).1
  have HH := Lib.hid h
  have HNE := Lib.hid hne
  have HI := Lib.hid hi
  have HCL := Lib.hid (fun u y (k : Sav (fun q => q = g) w u) (hy : y ≠ m) => isit_no b m y u (k.cell hb hbg) hy)
  have HIX := Lib.hid (iindex_any g off cap b m xs i hi (fun j hj => hne j (by omega)) hn w h hb)
  clear h hne hi hb
  go_enter Tryd.func122, Tryd.ntmps122
  have i0 : ¬ (i : Int) = -1 := by omega
  go_wp2_with (go_at_call 44; (with_reducible refine HIX.out.mono ?_); rintro e w1 ⟨rfl, rfl⟩)
  rw [show ((i : Int) == -1) = false from by simp only [beq_eq_false_iff_ne]; omega]
  go_loopw [5, 6] (fun s5 s6 wr => ∃ (k j : Nat), s5 = .int .i64 (k : Int) ∧ s6 = .int .i64 (j : Int) ∧ (i ≤ k ∧ k < xs.length) ∧ Hid (j = k + 1) ∧ Hid (IntRow wr (.slice (some ⟨g, off, none⟩) xs.length cap) (midRow xs i j)) ∧ Hid (Sav (fun q => q = g) w wr)) (fun _ s6 _ => xs.length - (intOf s6).toNat)
  case atStart => exact ⟨i, i + 1, rfl, by go_num, ⟨Nat.le_refl _, hil⟩, Lib.hid rfl, Lib.hid (by rw [midRow_at]; exact HH.out), Lib.hid (.refl _ _)⟩
  case round =>
    obtain ⟨k, j, rfl, rfl, hk, HJ, HR, HS⟩ := hrel
    by_cases hlt : j < xs.length
    · have i1 : (0 : Int) ≤ (j : Int) := by omega
      have i2 : (j : Int) < (xs.length : Int) := by omega
      have i3 : (0 : Int) ≤ (k : Int) := by omega
      have i4 : (k : Int) < (xs.length : Int) := by omega
      obtain ⟨y, hy⟩ : ∃ y, xs[j]? = some y := ⟨_, List.getElem?_eq_getElem (by omega)⟩
      obtain ⟨z, hz⟩ : ∃ z, (midRow xs i j)[k]? = some z := ⟨_, List.getElem?_eq_getElem (by rw [midRow_len xs i j hil (by have := HJ.out; omega) (by omega)]; omega)⟩
      have cj := HR.out.at.2.2.2.1 j y (by rw [midRow_get xs i j hil hlt]; exact hy)
      have ck := HR.out.at.2.2.2.1 k z hz
      have fk := HR.out.at.2.2.2.2 (off + k)
      have HY := Lib.hid hy
      clear hy hz
      have HYM : Hid (y ≠ m) := Lib.hid (fun e => HNE.out j (by have := HJ.out; omega) (by rw [HY.out, e]))
      have HCY := Lib.hid (HCL.out wr y HS.out HYM.out)
      have HW1 := Lib.hid (show wrap64 ((j : Int) + 1) = (j : Int) + 1 from by unfold wrap64; omega)
      have HW2 := Lib.hid (show wrap64 ((k : Int) + 1) = (k : Int) + 1 from by unfold wrap64; omega)
      go_wp2_with (go_at_call 123; refine HCY.out.mono ?_; rintro e w1 ⟨rfl, rfl⟩)
      go_roundw
      case rel => exact ⟨k + 1, j + 1, by go_num, by go_num, ⟨by omega, by have := HJ.out; omega⟩, Lib.hid (by have := HJ.out; omega), Lib.hid (by have h1 := HR.out.put k (by rw [midRow_len xs i j hil (by have := HJ.out; omega) (by omega)]; omega) y; rw [show k = j - 1 by have := HJ.out; omega] at h1 ⊢; rw [midRow_set xs i j y hil (by have := HJ.out; omega) hlt HY.out] at h1; exact h1), Lib.hid (HS.out.then (.set g (off + k) _))⟩
      case measure => simp [intOf]; omega
    · obtain rfl : j = xs.length := by have := HJ.out; omega
      obtain ⟨z, hz⟩ : ∃ z, (midRow xs i xs.length)[k]? = some z := ⟨_, List.getElem?_eq_getElem (by rw [midRow_len xs i xs.length hil hil (Nat.le_refl _)]; omega)⟩
      have ck := HR.out.at.2.2.2.1 k z hz
      have fk := HR.out.at.2.2.2.2 (off + k)
      clear hz
      have i1 : ¬ (xs.length : Int) < (xs.length : Int) := by omega
      have i2 : (0 : Int) ≤ (k : Int) := by omega
      have i3 : (k : Int) ≤ (xs.length : Int) := by omega
      have i4 : (k : Int) ≤ (cap : Int) := by omega
      have i5 : ¬ cap = k := by omega
      have hcl : ∀ ty, (Builtin.clear_ #[42] ty #[.slice (some ⟨g, off + k, none⟩) (xs.length - k) (cap - k)]).run Tryd.prog wr = .ok (.tuple #[]) (wr.setCells g (off + k) (List.replicate (xs.length - k) (.int .i64 0))) := by
        intro ty
        obtain ⟨i0', hi0, hz0, hz1, hz2⟩ := info_parts info_intE
        refine Lib.run_clear_slice wr _ 3 ty (.int .i64 0) Tryd.underlying42 (fun u => ?_) rfl rfl g (off + k) _ _ (by omega) (fun t ht => ?_) (fun t ht => HR.out.at.2.2.2.2 _)
        · simp [zeroValue, go_sem]
          rfl
        · obtain rfl : t = 0 := by have := HJ.out; omega
          rw [Nat.add_zero, ck]
          rfl
      clear ck fk
      go_wp2
      go_ret
      obtain rfl : k = xs.length - 1 := by have := HJ.out; omega
      rw [show xs.length - (xs.length - 1) = 1 by omega]
      have h1 := (HR.out.put (xs.length - 1) (by rw [midRow_len xs i xs.length hil hil (Nat.le_refl _)]; omega) 0).first (k := xs.length - 1) (by rw [List.length_set, midRow_len xs i xs.length hil hil (Nat.le_refl _)]; omega)
      rw [List.take_set_of_le (Nat.le_refl _), midRow_end xs i hil] at h1
      exact ⟨rfl, h1, HS.out.then (.set g (off + (xs.length - 1)) _)⟩
end Go.Proofs.YtbpofdfehcbppaaDoor

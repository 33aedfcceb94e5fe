/-
  The law SketchGrids at every input.
-/
import Derived.Test.YtmangbbcnkbfkaaDoorGridB
namespace Go.Proofs.YtmangbbcnkbfkaaDoor
open Go.RowKit Go.Extern.Stop Go.Stop Go.Extern

/-- a grid's numbers behind k keys -/
def fk (xs : List Int) (cells rows : Nat) : Nat → Nat → Int
  | 0 => fun _ => 0
  | k + 1 => ad (fk xs cells rows k) cells (xs.getD k 0) rows
/-- how many of the first k keys have the cell c in row r -/
def cn (xs : List Int) (cells r c : Nat) : Nat → Int
  | 0 => 0
  | k + 1 => cn xs cells r c k + (if gc cells r (xs.getD k 0) = c then 1 else 0)
/-- what the law wants -/
def wn (xs : List Int) (cells : Nat) (key : Int) (n : Nat) : Nat → Int
  | 0 => (n : Int)
  | r + 1 => min (wn xs cells key n r) (cn xs cells r (gc cells r key) n)

theorem cn_in (xs : List Int) (cells r c k : Nat) : 0 ≤ cn xs cells r c k ∧ cn xs cells r c k ≤ k := by
  induction k with
  | zero => simp [cn]
  | succ k ih =>
    rw [cn]
    split <;> omega
theorem fk_at {xs : List Int} {cells rows r c : Nat} (hc : 1 ≤ cells ∧ cells ≤ 1001) (hr : r < rows) (hcc : c < cells) (k : Nat) : fk xs cells rows k (r * cells + c) = cn xs cells r c k := by
  induction k with
  | zero => rfl
  | succ k ih => rw [fk, cn, ad_at hc hr hcc, ih]
theorem fk_in {xs : List Int} {cells rows : Nat} (hc : 1 ≤ cells ∧ cells ≤ 1001) (k i : Nat) (hi : i < rows * cells) : 0 ≤ fk xs cells rows k i ∧ fk xs cells rows k i ≤ k := by
  have hr : i / cells < rows := Nat.div_lt_of_lt_mul (by rw [Nat.mul_comm]; exact hi)
  have hm : i % cells < cells := Nat.mod_lt _ (by omega)
  have e : i / cells * cells + i % cells = i := by rw [Nat.mul_comm]; exact Nat.div_add_mod i cells
  have := fk_at (xs := xs) hc hr hm k
  rw [e] at this
  rw [this]
  exact cn_in ..
theorem gs_wn {xs : List Int} {cells rows : Nat} {key : Int} {n : Nat} (hc : 1 ≤ cells ∧ cells ≤ 1001) {r : Nat} (hr : r + 1 ≤ rows) : gs (fk xs cells rows n) cells key (r + 1) = wn xs cells key n (r + 1) := by
  induction r with
  | zero =>
    rw [gs, gs, if_pos (.inl (by decide)), wn, wn, fk_at hc hr (gc_in hc).1]
    have := cn_in xs cells 0 (gc cells 0 key) n
    omega
  | succ r ih =>
    have h0 := ih (by omega)
    rw [gs, wn, h0, fk_at hc hr (gc_in hc).1]
    have h1 := cn_in xs cells (r + 1) (gc cells (r + 1) key) n
    have h2 : 0 ≤ wn xs cells key n (r + 1) := by
      have : ∀ q, 0 ≤ wn xs cells key n q := by
        intro q
        induction q with
        | zero => simp [wn]
        | succ q ihq =>
          rw [wn]
          have := cn_in xs cells q (gc cells q key) n
          omega
      exact this _
    split <;> omega

set_option maxRecDepth 100000 in
set_option maxHeartbeats 4000000 in
theorem sketchGrids_no (rows cells : Int) (a : Option Addr) (n cap : Nat) (key : Int) (w : World) (hg : Glob w) (hr : Bd rows) (hc : Bd cells) (hn : n ≤ 200) (h : rows < 1 ∨ 8 < rows ∨ cells < 1 ∨ 1000 < cells) :
    Calls Tryd.prog 4 #[.int .i64 rows, .int .i64 cells, .slice a n cap, .int .i64 key] w fun e w' => e = .returned (.bool true) ∧ Gr w w' := by
  have hnn : (n : Int) ≤ 200 := by omega
  have HN := Lib.hid (newGrid_no rows cells w hr hc h)
  have HG := Lib.hid hg
  have a1 := hr.1
  have a2 := hr.2
  have a3 := hc.1
  have a4 := hc.2
  clear hr hc hg hn
  by_cases b1 : rows < 1
  · clear h
    go_enter Tryd.func4, Tryd.ntmps4
    go_wp2_with (first
      | (go_at_call 11; refine HN.out.mono ?_; rintro e w' ⟨rfl, rfl⟩)
      | (go_at_call 9; refine (bare_true _ HG.out (ErrIs.no _ _)).mono ?_; rintro e w3 ⟨rfl, hg3⟩; have HG3 := Lib.hid hg3; clear hg3)
      | (go_at_call 12; refine (guess_nil _ _).mono ?_; rintro e w' ⟨rfl, rfl⟩)
      | (go_at_call 13; refine (cell_nil _ _ _).mono ?_; rintro e w' ⟨rfl, rfl⟩))
    go_ret
    exact ⟨rfl, HG3.out⟩
  by_cases b2 : 8 < rows
  · clear h
    go_enter Tryd.func4, Tryd.ntmps4
    go_wp2_with (first
      | (go_at_call 11; refine HN.out.mono ?_; rintro e w' ⟨rfl, rfl⟩)
      | (go_at_call 9; refine (bare_true _ HG.out (ErrIs.no _ _)).mono ?_; rintro e w3 ⟨rfl, hg3⟩; have HG3 := Lib.hid hg3; clear hg3)
      | (go_at_call 12; refine (guess_nil _ _).mono ?_; rintro e w' ⟨rfl, rfl⟩)
      | (go_at_call 13; refine (cell_nil _ _ _).mono ?_; rintro e w' ⟨rfl, rfl⟩))
    go_ret
    exact ⟨rfl, HG3.out⟩
  by_cases b3 : cells < 1
  · clear h
    go_enter Tryd.func4, Tryd.ntmps4
    go_wp2_with (first
      | (go_at_call 11; refine HN.out.mono ?_; rintro e w' ⟨rfl, rfl⟩)
      | (go_at_call 9; refine (bare_true _ HG.out (ErrIs.no _ _)).mono ?_; rintro e w3 ⟨rfl, hg3⟩; have HG3 := Lib.hid hg3; clear hg3)
      | (go_at_call 12; refine (guess_nil _ _).mono ?_; rintro e w' ⟨rfl, rfl⟩)
      | (go_at_call 13; refine (cell_nil _ _ _).mono ?_; rintro e w' ⟨rfl, rfl⟩))
    go_ret
    exact ⟨rfl, HG3.out⟩
  have b4 : 1000 < cells := by omega
  clear h
  go_enter Tryd.func4, Tryd.ntmps4
  go_wp2_with (first
    | (go_at_call 11; refine HN.out.mono ?_; rintro e w' ⟨rfl, rfl⟩)
    | (go_at_call 9; refine (bare_true _ HG.out (ErrIs.no _ _)).mono ?_; rintro e w3 ⟨rfl, hg3⟩; have HG3 := Lib.hid hg3; clear hg3)
    | (go_at_call 12; refine (guess_nil _ _).mono ?_; rintro e w' ⟨rfl, rfl⟩)
    | (go_at_call 13; refine (cell_nil _ _ _).mono ?_; rintro e w' ⟨rfl, rfl⟩))
  all_goals
    go_ret
    exact ⟨rfl, HG3.out⟩

set_option maxRecDepth 100000 in
set_option maxHeartbeats 20000000 in
theorem sketchGrids_ok (rows cells : Nat) {xs : List Int} (a : Option Addr) (n cap : Nat) (key : Int) (w : World) (hg : Glob w) (hr : 1 ≤ rows ∧ rows ≤ 8) (hc : 1 ≤ cells ∧ cells ≤ 1000) (hn : n ≤ 200) (hk : Bd key) (hb : Hid (∀ i, i < n → Bd (xs.getD i 0)))
    (hA : Hid (0 < n → ∃ b off, a = some ⟨b, off, none⟩ ∧ ∀ i, i < n → w.cell? ⟨b, off + i, none⟩ = some (.int .i64 (xs.getD i 0)))) :
    Calls Tryd.prog 4 #[.int .i64 (rows : Int), .int .i64 (cells : Int), .slice a n cap, .int .i64 key] w fun e w' => e = .returned (.bool true) ∧ Gr w w' := by
  have hnn : (n : Int) ≤ 200 := by omega
  have HN := Lib.hid (newGrid_ok rows cells w hr hc)
  have HG := Lib.hid hg
  have HK := Lib.hid hk
  have HRR := Lib.hid hr
  have HCC := Lib.hid hc
  have a1 : (1 : Int) ≤ (rows : Int) := by omega
  have a2 : (rows : Int) ≤ 8 := by omega
  have a3 : (1 : Int) ≤ (cells : Int) := by omega
  have a4 : (cells : Int) ≤ 1000 := by omega
  have b1 : ¬ ((rows : Int) < 1) := by omega
  have b2 : ¬ (8 < (rows : Int)) := by omega
  have b3 : ¬ ((cells : Int) < 1) := by omega
  have b4 : ¬ (1000 < (cells : Int)) := by omega
  clear hr hc hg hk
  go_enter Tryd.func4, Tryd.ntmps4
  go_wp2_with (first
      | (go_at_call 11; refine HN.out.mono ?_; rintro e w1 ⟨g, rfl, nb, hG1, hnb, hg1⟩; have HGA := Lib.hid hG1; have HG1 := Lib.hid hg1; have HNB := Lib.hid hnb; clear hG1 hg1 hnb)
      | (go_at_call 9; exfalso; omega)
      | (go_at_call 13; refine (cell_out _ _ _ _ _ HGA.out.c0 (by omega)).mono ?_; rintro e w' ⟨rfl, rfl⟩))
  clear b1 b2 b3 b4
  have hn0 := Lib.hid hn
  go_loopw [11] (fun i wr => ∃ k : Nat, k ≤ n ∧ i = .int .i64 k ∧ Hid (GridAt wr g nb rows cells (fk xs cells rows k)) ∧ Hid (Gr w wr)) (fun i _ => n - (intOf i).toNat)
  case atStart => exact ⟨0, Nat.zero_le _, rfl, HGA, HG1⟩
  case round =>
    obtain ⟨k, hkn, rfl, HR, HU⟩ := hrel
    by_cases hlt : k < n
    · obtain ⟨b, off, rfl, hA2⟩ := hA.out (by omega)
      have c0 := HU.out.cell (hA2 k hlt)
      have HBK := Lib.hid (hb.out k hlt)
      have HF : Hid (∀ i, i < rows * cells → 0 ≤ fk xs cells rows k i ∧ fk xs cells rows k i ≤ 1000) := Lib.hid (fun i hi => by
        have := fk_in (xs := xs) (rows := rows) (cells := cells) (by have := HCC.out; omega) k i hi
        have := hn0.out
        omega)
      have HS : Hid (fk xs cells rows (k + 1) = ad (fk xs cells rows k) cells (xs.getD k 0) rows) := Lib.hid rfl
      have i0 : (0 : Int) ≤ (k : Int) := by omega
      have i1 : (k : Int) < (n : Int) := by omega
      clear hA2
      generalize xs.getD k 0 = x at *
      go_wp2_with (go_at_call 14; refine (add_ok _ _ _ _ _ _ _ HRR.out.2 HCC.out HBK.out HR.out HF).mono ?_; rintro e w2 ⟨rfl, hG2, hu2⟩; have HG2 := Lib.hid hG2; have HU2 := Lib.hid (hu2 w HU.out HNB.out); clear hG2 hu2)
      go_roundw
      case rel => exact ⟨k + 1, by omega, by go_num, by rw [HS.out]; exact HG2, HU2⟩
      case measure => simp [intOf]; omega
    · obtain rfl : k = n := by omega
      obtain ⟨wo, hwo⟩ : ∃ wo : World, wo = wr := ⟨_, rfl⟩
      rw [← hwo] at HR HU
      rw [← hwo]
      clear hwo
      have hn2 := hn0.out
      go_wp2
      go_loopw [12, 13] (fun t i wr => ∃ r : Nat, r ≤ rows ∧ i = .int .i64 r ∧ t = .int .i64 (wn xs cells key k r) ∧ Hid (wr = wo)) (fun _ i _ => rows - (intOf i).toNat)
      case atStart => exact ⟨0, Nat.zero_le _, rfl, rfl, rfl⟩
      case round =>
        obtain ⟨r, hrr, rfl, rfl, HW⟩ := hrel
        obtain rfl := HW.out
        by_cases hlt : r < rows
        · have HC1 := Lib.hid (fun W => rcell_any cells r key W (by have := HCC.out; omega) (by have := HRR.out; omega) HK.out)
          have HC2 := Lib.hid (cell_in g cells rows r key wr (by have := HCC.out; omega) hlt HRR.out.2 HK.out HR.out.c0 HR.out.c1)
          have hcn := cn_in xs cells r (gc cells r key) k
          have i0 : (0 : Int) ≤ (r : Int) := by omega
          have i1 : (r : Int) < (rows : Int) := by omega
          have HWN : Hid (wn xs cells key k (r + 1) = min (wn xs cells key k r) (cn xs cells r (gc cells r key) k)) := Lib.hid rfl
          have HCI := Lib.hid (fun W q => rcell_any cells r (xs.getD q 0) W (by have := HCC.out; omega) (by have := HRR.out; omega))
          have HNC : Hid (∀ q, cn xs cells r (gc cells r key) (q + 1) = cn xs cells r (gc cells r key) q + (if gc cells r (xs.getD q 0) = gc cells r key then 1 else 0)) := Lib.hid (fun q => rfl)
          have HIN := Lib.hid (fun q => cn_in xs cells r (gc cells r key) q)
          generalize hcc : gc cells r key = c at *
          clear hcc
          go_wp2_with (first
            | (go_at_call 15; refine (HC1.out _).mono ?_; rintro e w' ⟨rfl, rfl⟩)
            | (go_at_call 13; refine HC2.out.mono ?_; rintro e w' ⟨rfl, hww⟩; replace hww := hww.symm; subst hww))
          go_loopw [15, 16] (fun t i wq => ∃ q : Nat, q ≤ k ∧ i = .int .i64 q ∧ t = .int .i64 (cn xs cells r c q) ∧ Hid (wq = wr)) (fun _ i _ => k - (intOf i).toNat)
          case atStart => exact ⟨0, Nat.zero_le _, rfl, rfl, rfl⟩
          case round =>
            obtain ⟨q, hq, rfl, rfl, HW⟩ := hrel
            by_cases hlq : q < k
            · obtain ⟨b, off, rfl, hA2⟩ := hA.out (by omega)
              have d0 := HU.out.cell (hA2 q hlq)
              rw [← HW.out] at d0
              have HBK := Lib.hid (hb.out q hlq)
              have HS := Lib.hid (HNC.out q)
              have HC3 := Lib.hid (fun W => HCI.out W q HBK.out)
              have hin := HIN.out q
              have q0 : (0 : Int) ≤ (q : Int) := by omega
              have q1 : (q : Int) < (k : Int) := by omega
              clear hA2
              generalize xs.getD q 0 = x at *
              by_cases e1 : gc cells r x = c
              · have HS2 : Hid (cn xs cells r c (q + 1) = cn xs cells r c q + 1) := Lib.hid (by rw [HS.out, if_pos e1])
                clear HS
                rw [e1] at HC3
                clear e1
                generalize cn xs cells r c q = y at *
                go_wp2_with (go_at_call 15; refine (HC3.out _).mono ?_; rintro e w' ⟨rfl, rfl⟩)
                go_roundw
                case rel => exact ⟨q + 1, by omega, by go_num, by rw [HS2.out], HW⟩
                case measure => simp [intOf]; omega
              · have HS2 : Hid (cn xs cells r c (q + 1) = cn xs cells r c q) := Lib.hid (by rw [HS.out, if_neg e1]; omega)
                clear HS
                have hne : ((gc cells r x : Int) == (c : Int)) = false := by simp; omega
                clear e1
                generalize ((gc cells r x : Nat) : Int) = gg at *
                generalize cn xs cells r c q = y at *
                go_wp2_with (go_at_call 15; refine (HC3.out _).mono ?_; rintro e w' ⟨rfl, rfl⟩)
                go_roundw
                case rel => exact ⟨q + 1, by omega, by go_num, by rw [HS2.out], HW⟩
                case measure => simp [intOf]; omega
            · obtain rfl : q = k := by omega
              generalize cn xs cells r c q = y at *
              generalize wn xs cells key q r = z at *
              go_wp2
              go_roundw
              case rel => exact ⟨r + 1, by omega, by go_num, by rw [HWN.out]; simp [min_ite], HW⟩
              case measure => simp [intOf]; omega
        · obtain rfl : r = rows := by omega
          have HGS := Lib.hid (fun W (hW : Gr wr W) => by
            have h1 := guess_ok g nb r cells (fk xs cells r k) key W HRR.out.2 HCC.out HK.out (HR.out.gr hW) (Lib.hid (fun i hi => by
              have := fk_in (xs := xs) (rows := r) (cells := cells) (by have := HCC.out; omega) k i hi
              omega))
            rw [show gs (fk xs cells r k) cells key r = wn xs cells key k r from by
              obtain ⟨r', rfl⟩ : ∃ r', r = r' + 1 := ⟨r - 1, by have := HRR.out; omega⟩
              exact gs_wn (by have := HCC.out; omega) (Nat.le_refl _)] at h1
            exact h1)
          generalize wn xs cells key k r = z at *
          have HGW := Lib.hid (HG.out.gr HU.out)
          by_cases hc1 : cells < 1000
          · have HN2 : Hid (Calls Tryd.prog 11 #[.int .i64 (r : Int), .int .i64 ((cells : Int) + 1)] wr fun e w' => ∃ g', e = .returned (.tuple #[.pointer (some ⟨g', 0, none⟩), .nilIface]) ∧ ∃ nb', GridAt w' g' nb' r (cells + 1) (fun _ => 0) ∧ wr.heap.size ≤ nb' ∧ Gr wr w') :=
              Lib.hid (by simpa using newGrid_ok r (cells + 1) wr HRR.out (by omega))
            go_wp2_with (first
              | (go_at_call 11; refine HN2.out.mono ?_; rintro e w3 ⟨g2, rfl, nb2, hG3, _, hg3⟩; have HGB := Lib.hid hG3; have HT := Lib.hid hg3; clear hG3 hg3)
              | (go_at_call 12; refine (HGS.out _ HT.out).mono ?_; rintro e w4 ⟨rfl, hg4⟩; have HGB := Lib.hid (HGB.out.gr hg4); have HT := Lib.hid (HT.out.trans hg4); clear hg4)
              | (go_at_call 16; have _ := tok1; refine (merge_other _ _ r cells _ HCC.out.2 (HR.out.gr HT.out).c0 (HR.out.gr HT.out).c1 HGB.out.c0 (by simpa using HGB.out.c1)).mono ?_; rintro e w4 ⟨rfl, hg4⟩; have HGB := Lib.hid (HGB.out.gr hg4); have HT := Lib.hid (HT.out.trans hg4); clear hg4)
              | (go_at_call 16; refine (merge_nil g _).mono ?_; rintro e w' ⟨rfl, hww⟩; replace hww := hww.symm; subst hww; have tok1 := trivial)
              | (go_at_call 9; refine (bare_true _ (HGW.out.gr HT.out) (ErrIs.no _ _)).mono ?_; rintro e w4 ⟨rfl, hg4⟩; have HGB := Lib.hid (HGB.out.gr hg4); have HT := Lib.hid (HT.out.trans hg4); clear hg4))
            go_ret
            exact ⟨rfl, HU.out.trans HT.out⟩
          · have HN2 := Lib.hid (newGrid_no (r : Int) ((cells : Int) + 1) wr (by have := HRR.out; unfold Bd; omega) (by have := HCC.out; unfold Bd; omega) (by omega))
            go_wp2_with (first
              | (go_at_call 11; refine HN2.out.mono ?_; rintro e w' ⟨rfl, hww⟩; replace hww := hww.symm; subst hww)
              | (go_at_call 12; refine (HGS.out _ (Gr.refl _)).mono ?_; rintro e w4 ⟨rfl, hg4⟩; have HT := Lib.hid hg4; clear hg4)
              | (go_at_call 16; refine (merge_nil g _).mono ?_; rintro e w' ⟨rfl, hww⟩; replace hww := hww.symm; subst hww)
              | (go_at_call 9; refine (bare_true _ (HGW.out.gr HT.out) (ErrIs.no _ _)).mono ?_; rintro e w4 ⟨rfl, hg4⟩; have HT := Lib.hid (HT.out.trans hg4); clear hg4))
            go_ret
            exact ⟨rfl, HU.out.trans HT.out⟩

set_option maxRecDepth 100000 in
set_option maxHeartbeats 4000000 in
theorem sketchGrids_walk (w : World) (hg : Glob w) (rows : Int) (r1 : -9223372036854775808 ≤ rows) (r2 : rows ≤ 9223372036854775807) (cells : Int) (c1 : -9223372036854775808 ≤ cells) (c2 : cells ≤ 9223372036854775807)
    {v : Value} {xs : List Int} (hx : Ints w v xs) (hb : ∀ x ∈ xs, -9223372036854775808 ≤ x ∧ x ≤ 9223372036854775807) (key : Int) (k1 : -9223372036854775808 ≤ key) (k2 : key ≤ 9223372036854775807) :
    Calls Tryd.prog 4 #[.int .i64 rows, .int .i64 cells, v, .int .i64 key] w fun e w' => e = .returned (.bool true) ∧ Gr w w' := by
  obtain ⟨a, cap, rfl⟩ := ints_shape hx
  have hl := hx.len
  have hA := Lib.hid (ints_any hx)
  have hB := Lib.hid (show ∀ i, i < xs.length → Bd (xs.getD i 0) from fun i hi => hb _ (by simp [List.getD_eq_getElem?_getD, hi]))
  by_cases hn : xs.length ≤ 200
  · by_cases h : rows < 1 ∨ 8 < rows ∨ cells < 1 ∨ 1000 < cells
    · exact sketchGrids_no rows cells a _ cap key w hg ⟨r1, r2⟩ ⟨c1, c2⟩ hn h
    · obtain ⟨rows, rfl⟩ := Int.eq_ofNat_of_zero_le (show 0 ≤ rows by omega)
      obtain ⟨cells, rfl⟩ := Int.eq_ofNat_of_zero_le (show 0 ≤ cells by omega)
      exact sketchGrids_ok rows cells a _ cap key w hg (by omega) (by omega) hn ⟨k1, k2⟩ hB hA
  · have hgn : (200 : Int) < (xs.length : Int) := by omega
    clear hx hb hA hB hn
    generalize xs.length = n at *
    go_enter Tryd.func4, Tryd.ntmps4
    go_wp2
    go_ret
    exact ⟨rfl, Gr.refl _⟩
end Go.Proofs.YtmangbbcnkbfkaaDoor

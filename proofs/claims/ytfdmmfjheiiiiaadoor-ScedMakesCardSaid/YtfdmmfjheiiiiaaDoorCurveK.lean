/-
  curve.Serve, millraceref.Serve: both tell 'serveAt', or what is wrong by 'ckServe'.
-/
import Derived.Test.YtfdmmfjheiiiiaaDoorCurveF
namespace Go.Proofs.YtfdmmfjheiiiiaaDoor
open Go.RowKit Go.Extern.Stop Go.Stop Go.Extern

def comeAt (xs : List Int) (i : Nat) : Int := if xs.getD i 0 < 0 ∨ 1000000 < xs.getD i 0 then 2 else 0
def ckServe (xs ys : List Int) : Int := if ckCurve ys ≠ 0 then ckCurve ys else if ys.length < xs.length then 4 else firstOf (comeAt xs) xs.length
def sumTo (xs : List Int) : Nat → Int
  | 0 => 0
  | n + 1 => sumTo xs n + xs.getD n 0
def serveF (xs ys : List Int) (t s : Nat) : Int := sumTo xs s + ys.getD (t - s) 0
def serveAt (xs ys : List Int) (t : Nat) : Int := minTo (serveF xs ys t) t
def pmin (f : Nat → Int) (c : Int) : Nat → Int
  | 0 => c
  | n + 1 => min (pmin f c n) (f n)
theorem pmin_eq (f : Nat → Int) (c : Int) (n : Nat) : pmin f c (n + 1) = min c (minTo f n) := by
  induction n with
  | zero => rfl
  | succ n ih => rw [pmin, ih, minTo]; omega
theorem pmin_minTo (f : Nat → Int) (t : Nat) : pmin f (f t) t = minTo f t := by
  cases t with
  | zero => rfl
  | succ n => rw [pmin_eq, minTo]; omega
theorem pmin_bd {f : Nat → Int} {c : Int} {n : Nat} {lo hi : Int} (hc : lo ≤ c ∧ c ≤ hi) (h : ∀ j, j < n → lo ≤ f j ∧ f j ≤ hi) : lo ≤ pmin f c n ∧ pmin f c n ≤ hi := by
  induction n with
  | zero => exact hc
  | succ n ih =>
    have h1 := ih (fun j hj => h j (by omega))
    have h2 := h n (by omega)
    simp only [pmin]
    omega
theorem sumTo_bd {xs : List Int} {k : Nat} (h : ∀ j, j < k → comeAt xs j = 0) : 0 ≤ sumTo xs k ∧ sumTo xs k ≤ 1000000 * (k : Int) := by
  induction k with
  | zero => simp [sumTo]
  | succ k ih =>
    have h1 := ih (fun j hj => h j (by omega))
    have h2 := h k (by omega)
    unfold comeAt at h2
    split at h2
    · omega
    · simp only [sumTo]
      omega
theorem come_2 {xs : List Int} {k : Nat} {x : Int} (hx : xs.getD k 0 = x) (h : x < 0 ∨ 1000000 < x) : comeAt xs k = 2 := by
  unfold comeAt; rw [hx, if_pos h]
theorem come_0 {xs : List Int} {k : Nat} {x : Int} (hx : xs.getD k 0 = x) (h : ¬ (x < 0 ∨ 1000000 < x)) : comeAt xs k = 0 := by
  unfold comeAt; rw [hx, if_neg h]
theorem serveF_bd {xs ys : List Int} {n t : Nat} (hz : ∀ j, j < n → comeAt xs j = 0) (hy : ckCurve ys = 0) (hn : n ≤ 201) (ht : t < n) (hm : n ≤ ys.length) : ∀ j, j ≤ t → 0 ≤ serveF xs ys t j ∧ serveF xs ys t j ≤ 2000000000000 := by
  intro j hj
  have a := sumTo_bd (xs := xs) (k := j) (fun i hi => hz i (by omega))
  have b := ckCurve_bd hy (t - j) (by omega)
  unfold serveF
  omega
theorem ckServe_check {xs ys : List Int} (h : ckCurve ys ≠ 0) : ckServe xs ys = ckCurve ys := by unfold ckServe; rw [if_pos h]
theorem ckServe_len {xs ys : List Int} (h : ckCurve ys = 0) (hl : ys.length < xs.length) : ckServe xs ys = 4 := by unfold ckServe; rw [if_neg (by omega), if_pos hl]
theorem ckServe_at {xs ys : List Int} {n k : Nat} (hn : xs.length = n) (h : ckCurve ys = 0) (hl : ¬ ys.length < xs.length) (hj : ∀ j, j < k → comeAt xs j = 0) (hk : k < n) (hc : comeAt xs k = 2) : ckServe xs ys = 2 := by
  unfold ckServe; rw [if_neg (by omega), if_neg hl, hn]; exact firstOf_at hj hk hc (by decide)
theorem ckServe_ok {xs ys : List Int} {n : Nat} (hn : xs.length = n) (h : ckCurve ys = 0) (hl : ¬ ys.length < xs.length) (hj : ∀ j, j < n → comeAt xs j = 0) : ckServe xs ys = 0 := by
  unfold ckServe; rw [if_neg (by omega), if_neg hl, hn]; exact firstOf_zero hj

/-- what comes out of it: (r, the error of the code) -/
def ServeIs (w : World) (xs ys : List Int) (mk : Int → Value) (e : Ending) (w' : World) : Prop :=
  ∃ r, e = .returned (.tuple #[r, mk (ckServe xs ys)]) ∧ Ints w' r (if ckServe xs ys = 0 then upTo (serveAt xs ys) xs.length else []) ∧ Gr w w'
theorem ServeIs.bad {w w' : World} {xs ys : List Int} {mk : Int → Value} {c : Int} {a : Option Addr} {cap : Nat} (hc : ckServe xs ys = c) (h0 : c ≠ 0) (hg : Gr w w') : ServeIs w xs ys mk (.returned (.tuple #[.slice a 0 cap, mk c])) w' :=
  ⟨_, by rw [hc], by rw [if_neg (by omega)]; exact .inl ⟨_, _, rfl, rfl⟩, hg⟩
theorem ServeIs.good {w w' : World} {xs ys : List Int} {mk : Int → Value} {r : Value} {n : Nat} (hn : xs.length = n) (hc : ckServe xs ys = 0) (hr : Ints w' r (upTo (serveAt xs ys) n)) (hg : Gr w w') : ServeIs w xs ys mk (.returned (.tuple #[r, mk 0])) w' :=
  ⟨_, by rw [hc], by rw [if_pos hc, hn]; exact hr, hg⟩

set_option maxRecDepth 100000 in
set_option maxHeartbeats 4000000 in
theorem serve_slice {u : Value} {xs ys : List Int} (b off cap n : Nat) (w : World) (hn : xs.length = n) (h0 : 0 < n) (hx : Hid (∀ i, i < n → w.cell? ⟨b, off + i, none⟩ = some (.int .i64 (xs.getD i 0)))) (hy : Ints w u ys) (hc : ckCurve ys = 0) (hl : ¬ ys.length < xs.length) :
    Calls Tryd.prog 20 #[.slice (some ⟨b, off, none⟩) n cap, u] w (ServeIs w xs ys errV) := by
  obtain ⟨l3, l4⟩ := ckCurve_pos hc
  have HBY := Lib.hid (ckCurve_bd hc)
  have HC := Lib.hid (check_ok w hy hc)
  have HCC := Lib.hid hc
  have HL := Lib.hid hl
  obtain ⟨b', off', cap', rfl, CY⟩ := ints_cells hy l3
  have HN := Lib.hid hn
  rw [hn] at hl
  clear hy hc hn
  have HM0 : Hid (ys.length = ys.length) := rfl
  generalize hm : ys.length = m at *
  have HM := Lib.hid hm
  clear hm HM0
  go_enter Tryd.func20, Tryd.ntmps20
  go_wp2_with (go_at_call 19; refine HC.out.mono ?_; rintro e w' ⟨rfl, rfl⟩)
  go_loopw [7, 8, 28] (fun s r i wr => ∃ k : Nat, k ≤ n ∧ i = .int .i64 k ∧ s = .int .i64 (sumTo xs k) ∧ Hid (∀ j, j < k → comeAt xs j = 0) ∧ Hid (OwnInts wr w.heap.size r (upTo (sumTo xs) k)) ∧ Hid (Gr w wr)) (fun _ _ i _ => n - (intOf i).toNat)
  case atStart => exact ⟨0, Nat.zero_le _, rfl, rfl, fun j hj => absurd hj (by omega), OwnInts.nil _ _, Gr.refl _⟩
  case round =>
    obtain ⟨k, hk, rfl, rfl, HZ, HO, HG⟩ := hrel
    have hsb := sumTo_bd HZ.out
    by_cases hlt : k < n
    · have d1 := hx.out k hlt
      have hs1 : sumTo xs (k + 1) = sumTo xs k + xs.getD k 0 := rfl
      generalize hxk : xs.getD k 0 = x at d1 hs1
      generalize hsk : sumTo xs k = s at *
      have HXK := Lib.hid hxk
      have HS1 := Lib.hid hs1
      have HSK := Lib.hid hsk
      have c1 := HG.out.cell d1
      have i0 : (0 : Int) ≤ (k : Int) := by omega
      have i1 : (k : Int) < (n : Int) := by omega
      clear hxk hsk hs1 d1
      by_cases hbad : x < 0 ∨ 1000000 < x
      · have HB := Lib.hid hbad
        rcases hbad with hbad | hbad
        all_goals
          go_wp2
          go_ret2
          exact ServeIs.bad (ckServe_at HN.out HCC.out (by rw [HM.out]; exact HL.out) HZ.out hlt (come_2 HXK.out HB.out)) (by decide) HG.out
      · have hz1 : Hid (∀ j, j < k + 1 → comeAt xs j = 0) := okTo_succ HZ.out (come_0 HXK.out hbad)
        have hb1 : 0 ≤ x := by omega
        have hb2 : x ≤ 1000000 := by omega
        clear hbad
        go_wp2_with (at_builtin; refine wpList_append_int (by rfl) _ _ _ (by rfl) (by kernel_rfl) w.heap.size _ _ s (by rfl) (HO.out.alloc _) ⟨wr.heap.size, 0, none⟩ 1 (by rfl) (by simp) (by rw [upTo_len]; omega) (by have := HG.out.size; simp; omega) ?_; intro r' w1 hown1 hwr1; have HG1 := Lib.hid (hwr1 w (HG.out.alloc _) (Nat.le_refl _)); have HO1 := Lib.hid hown1; clear hown1 hwr1)
        go_roundw
        case rel => exact ⟨k + 1, by omega, by go_num, by rw [HS1.out], hz1, by rw [← upTo_succ, HSK.out]; exact HO1.out, HG1.out⟩
        case measure => simp [intOf]; omega
    · obtain rfl : k = n := by omega
      have hok := Lib.hid (ckServe_ok HN.out HCC.out (by rw [HM.out]; exact HL.out) HZ.out)
      have HBF : Hid (∀ t, t < k → ∀ j, j ≤ t → 0 ≤ serveF xs ys t j ∧ serveF xs ys t j ≤ 2000000000000) := fun t ht => serveF_bd HZ.out HCC.out (by omega) ht (by rw [HM.out]; omega)
      have HSB : Hid (∀ t, t ≤ k → 0 ≤ sumTo xs t ∧ sumTo xs t ≤ 1000000 * (t : Int)) := fun t ht => sumTo_bd (fun j hj => HZ.out j (by omega))
      clear hsb
      have hby := HO.out.ints (by rw [upTo_len]; omega)
      obtain ⟨b2, off2, cap2, rfl, CB⟩ := ints_cells hby (by rw [upTo_len]; omega)
      rw [upTo_len] at CB
      rw [upTo_len]
      clear hby HO
      obtain ⟨wo, hwo⟩ : ∃ wo : World, wo = wr := ⟨_, rfl⟩
      rw [← hwo] at HG CB
      rw [← hwo]
      clear hwo
      go_wp2
      go_loopw [11, 49] (fun r i wi => ∃ t : Nat, t ≤ k ∧ i = .int .i64 t ∧ Hid (OwnInts wi wo.heap.size r (upTo (serveAt xs ys) t)) ∧ Hid (Gr wo wi)) (fun _ i _ => k - (intOf i).toNat)
      case atStart => exact ⟨0, Nat.zero_le _, rfl, OwnInts.nil _ _, Gr.refl _⟩
      case round =>
        obtain ⟨t, ht, rfl, HO, HW⟩ := hrel
        by_cases htk : t < k
        · have d1 := CB.out t htk
          have d2 := CY.out 0 (by omega)
          rw [Nat.add_zero] at d2
          have hd1 : (upTo (sumTo xs) k).getD t 0 = sumTo xs t := by simp [upTo, htk]
          rw [hd1] at d1
          have e1 := HSB.out t (by omega)
          have e2 := HBY.out 0 (by omega)
          have hf : pmin (serveF xs ys t) (serveF xs ys t t) 0 = sumTo xs t + ys.getD 0 0 := by simp [pmin, serveF]
          generalize sumTo xs t = x at d1 hf e1
          generalize ys.getD 0 0 = y at d2 hf e2
          have HF := Lib.hid hf
          have c1 := HW.out.cell d1
          have c2 := (HG.out.trans HW.out).cell d2
          have i0 : (0 : Int) ≤ (t : Int) := by omega
          have i1 : (t : Int) < (k : Int) := by omega
          clear hf d1 d2 hd1
          go_wp2
          go_quiet (fail)
          go_wp2
          clear c1 c2
          obtain ⟨wp, hwp⟩ : ∃ wp : World, wp = wr.drewN nq := ⟨_, rfl⟩
          have HW' : Hid (Gr wo wp) := by rw [hwp]; exact HW.out.drewN _
          have HO' : Hid (OwnInts wp wo.heap.size u11 (upTo (serveAt xs ys) t)) := by rw [hwp]; exact HO.out.drewN _
          rw [← hwp]
          clear hwp HW HO
          go_loopw [13, 61] (fun be s wi => ∃ j : Nat, j ≤ t ∧ s = .int .i64 j ∧ be = .int .i64 (pmin (serveF xs ys t) (serveF xs ys t t) j) ∧ Hid (OwnInts wi wo.heap.size u11 (upTo (serveAt xs ys) t)) ∧ Hid (Gr wo wi)) (fun _ s _ => t - (intOf s).toNat)
          case atStart => exact ⟨0, by omega, rfl, by rw [HF.out], HO', HW'⟩
          case round =>
            obtain ⟨j, hj, rfl, rfl, HO, HW⟩ := hrel
            have hbb := pmin_bd (f := serveF xs ys t) (c := serveF xs ys t t) (n := j) (HBF.out t htk t (by omega)) (fun i hi => HBF.out t htk i (by omega))
            by_cases hjt : j < t
            · have d1 := CB.out j (by omega)
              have d2 := CY.out (t - j) (by omega)
              have hd1 : (upTo (sumTo xs) k).getD j 0 = sumTo xs j := by simp [upTo, show j < k by omega]
              rw [hd1] at d1
              have e1 := HSB.out j (by omega)
              have e2 := HBY.out (t - j) (by omega)
              have hf : pmin (serveF xs ys t) (serveF xs ys t t) (j + 1) = min (pmin (serveF xs ys t) (serveF xs ys t t) j) (sumTo xs j + ys.getD (t - j) 0) := rfl
              generalize sumTo xs j = x at d1 hf e1
              generalize ys.getD (t - j) 0 = y at d2 hf e2
              generalize pmin (serveF xs ys t) (serveF xs ys t t) j = best at *
              have HF := Lib.hid hf
              have c1 := HW.out.cell d1
              have c2 := (HG.out.trans HW.out).cell d2
              have j0 : (0 : Int) ≤ (j : Int) := by omega
              have j1 : (j : Int) < (k : Int) := by omega
              have j2 : (t : Int) < (m : Int) := by omega
              clear hf d1 d2 hd1
              go_wp2
              go_quiet (fail)
              go_wp2
              go_roundw
              case rel => exact ⟨j + 1, by omega, by go_num, by rw [HF.out, ← min_ite], HO.out.drewN _, HW.out.drewN _⟩
              case measure => simp [intOf]; omega
            · obtain rfl : j = t := by omega
              have hbest2 : serveAt xs ys j = pmin (serveF xs ys j) (serveF xs ys j j) j := (pmin_minTo _ _).symm
              generalize pmin (serveF xs ys j) (serveF xs ys j j) j = best at *
              have HB := Lib.hid hbest2
              clear hbest2
              go_wp2_with (at_builtin; refine wpList_append_int (by rfl) _ _ _ (by rfl) (by kernel_rfl) wo.heap.size _ _ best (by rfl) (HO.out.alloc _) ⟨wr.heap.size, 0, none⟩ 1 (by rfl) (by simp) (by rw [upTo_len]; omega) (by have := HW.out.size; simp; omega) ?_; intro r' w1 hown1 hwr1; have HG1 := Lib.hid (hwr1 wo (HW.out.alloc _) (Nat.le_refl _)); have HO1 := Lib.hid hown1; clear hown1 hwr1)
              go_roundw
              case rel => exact ⟨j + 1, by omega, by go_num, by rw [← upTo_succ, HB.out]; exact HO1.out, HG1.out⟩
              case measure => simp [intOf]; omega
        · obtain rfl : t = k := by omega
          go_wp2
          go_ret2
          exact ServeIs.good HN.out hok.out (HO.out.ints (by rw [upTo_len]; omega)) (HG.out.trans HW.out)
end Go.Proofs.YtfdmmfjheiiiiaaDoor

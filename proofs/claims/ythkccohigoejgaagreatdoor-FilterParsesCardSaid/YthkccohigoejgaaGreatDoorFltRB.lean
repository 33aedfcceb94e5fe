/-
  The reference's parser: is, within, field, walked.
-/
import Derived.Test.YthkccohigoejgaaGreatDoorFltRA
namespace Go.Proofs.YthkccohigoejgaaGreatDoor
open Go Go.RowKit

set_option maxRecDepth 100000 in
set_option maxHeartbeats 2000000 in
theorem is_hit {w0 w : World} {p m : Nat} {L R : List Tok} {e pl : Int} (h : RP w0 w p m L e 0 pl) (s : ByteArray) (hs : isT s L = some R) :
    Calls Tryz.prog 17 #[.pointer (some ⟨p, 0, none⟩), .string s] w fun E w' => E = .returned (.bool true) ∧ RP w0 w' p m R e 0 pl ∧ Sav (fun q => q = p) w w' := by
  obtain ⟨⟨x1, x2⟩, rfl, heq⟩ := isT_some hs
  have g3 := h.c2
  have hl := h.hl
  have f0 := h.fz 0
  obtain ⟨b, o, k, g0, g1, _, hb, hk1, hk2, hcut⟩ := h.cut1
  have HCUT := Lib.hid hcut
  clear h hcut hs
  simp only at g1 heq
  simp only [List.length_cons] at hl
  obtain ⟨n, hn⟩ : ∃ n, n = R.length := ⟨_, rfl⟩
  rw [← hn] at g0 hl hk1 HCUT
  have n0 : (0 : Int) ≤ (n : Int) := by omega
  have n1 : (n : Int) ≤ 2000 := by omega
  clear hn
  go_enter Tryz.func17, Tryz.ntmps17
  go_wp2
  all_goals go_ret
  all_goals exact ⟨rfl, HCUT.out _ (by simp_all), Sav.set p 0 _⟩
set_option maxRecDepth 100000 in
set_option maxHeartbeats 2000000 in
theorem is_miss {w0 w : World} {p m : Nat} {L : List Tok} {e pl : Int} (h : RP w0 w p m L e 0 pl) (s : ByteArray) (hs : isT s L = none) :
    Calls Tryz.prog 17 #[.pointer (some ⟨p, 0, none⟩), .string s] w fun E w' => E = .returned (.bool false) ∧ w = w' := by
  have g3 := h.c2
  have hl := h.hl
  cases L with
  | nil =>
    obtain ⟨a, k, g0, _⟩ := h.ls
    clear h
    simp only [List.length_nil] at g0
    go_enter Tryz.func17, Tryz.ntmps17
    go_wp2
    go_ret
    exact ⟨rfl, rfl⟩
  | cons x R =>
    rw [isT_cons] at hs
    have heq : (x.1.toList == s.toList) = false := by
      by_cases hq : (x.1.toList == s.toList) = true
      · rw [if_pos hq] at hs; cases hs
      · simpa using hq
    obtain ⟨x1, x2⟩ := x
    obtain ⟨b, o, k, g0, g1, _, hb, hk1, hk2, _⟩ := h.cut1
    clear h hs
    simp only at g1 heq
    simp only [List.length_cons] at hl
    obtain ⟨n, hn⟩ : ∃ n, n = R.length := ⟨_, rfl⟩
    rw [← hn] at g0 hl hk1
    have n0 : (0 : Int) ≤ (n : Int) := by omega
    have n1 : (n : Int) ≤ 2000 := by omega
    clear hn
    go_enter Tryz.func17, Tryz.ntmps17
    go_wp2
    go_ret
    exact ⟨rfl, rfl⟩
set_option maxRecDepth 100000 in
set_option maxHeartbeats 2000000 in
theorem is_err {w0 w : World} {p m : Nat} {L : List Tok} {e c pl : Int} (h : RP w0 w p m L e c pl) (hc : c ≠ 0) (s : ByteArray) :
    Calls Tryz.prog 17 #[.pointer (some ⟨p, 0, none⟩), .string s] w fun E w' => E = .returned (.bool false) ∧ w = w' := by
  have g3 := h.c2
  clear h
  go_enter Tryz.func17, Tryz.ntmps17
  go_wp2
  go_ret
  exact ⟨rfl, rfl⟩
/-- Where the fault is told. -/
def plOf (c pl e : Int) (L : List Tok) : Int := if c = 0 then pl else placeOf e L
theorem plOf_at (pl e : Int) (L : List Tok) : plOf 0 pl e L = pl := rfl
theorem plOf_no {c : Int} (h : c ≠ 0) (pl e : Int) (L : List Tok) : plOf c pl e L = placeOf e L := if_neg h
/-- What is told. -/
def Told (w0 w w' : World) (p m : Nat) (L L' : List Tok) (e pl : Int) (s : ByteArray) (hb : Bool) : Prop := (isT s L = if hb then some L' else none) ∧ (hb = false → L' = L) ∧ RP w0 w' p m L' e 0 pl ∧ Sav (fun q => q = p) w w'
theorem Told.yes {w0 w w' : World} {p m : Nat} {L L' : List Tok} {e pl : Int} {s : ByteArray} (h : Told w0 w w' p m L L' e pl s true) : isT s L = some L' := h.1
theorem Told.no {w0 w w' : World} {p m : Nat} {L L' : List Tok} {e pl : Int} {s : ByteArray} (h : Told w0 w w' p m L L' e pl s false) : isT s L = none ∧ L' = L := ⟨h.1, h.2.1 rfl⟩
theorem is_any {w0 w : World} {p m : Nat} {L : List Tok} {e pl : Int} (h : RP w0 w p m L e 0 pl) (s : ByteArray) :
    Calls Tryz.prog 17 #[.pointer (some ⟨p, 0, none⟩), .string s] w fun E w' => ∃ (hb : Bool) (L' : List Tok), E = .returned (.bool hb) ∧ Told w0 w w' p m L L' e pl s hb := by
  cases hs : isT s L with
  | none =>
    refine (is_miss h s hs).mono ?_
    rintro E w' ⟨rfl, rfl⟩
    exact ⟨false, L, rfl, hs, fun _ => rfl, h, Sav.refl _ _⟩
  | some R =>
    refine (is_hit h s hs).mono ?_
    rintro E w' ⟨rfl, hr, hsv⟩
    exact ⟨true, R, rfl, hs, fun e => (by cases e), hr, hsv⟩
set_option maxRecDepth 100000 in
set_option maxHeartbeats 2000000 in
/-- A number of a filter, where no fault is told yet. -/
theorem field_ok {w0 w : World} {p m : Nat} {L : List Tok} {e pl : Int} (HE : Env w0) (h : RP w0 w p m L e 0 pl) (s : ByteArray) (hs : s.size ≤ 2001) :
    Calls Tryz.prog 19 #[.pointer (some ⟨p, 0, none⟩), .string s] w fun E w' => E = .returned (.int .i64 (numOf s)) ∧ RP w0 w' p m L e (codeOf s) (plOf (codeOf s) pl e L) ∧ Sav (fun q => q = p) w w' := by
  have HR := Lib.hid h
  have HEN := Lib.hid HE
  have HS := Lib.hid hs
  clear h HE hs
  cases hn : numR s with
  | none =>
    have HC := Lib.hid (codeOf_none hn)
    go_enter Tryz.func19, Tryz.ntmps19
    go_wp2_with (first
      | (go_at_call 29; refine (rnumber_any s HS.out _ (HEN.out.gr HR.out.gr)).mono ?_; rintro E w1 ⟨rfl, hg⟩; have HG := Lib.hid hg; clear hg; rw [hn])
      | (go_at_call 11; refine (rfail_ok (HR.out.gr' HG.out) _).mono ?_; rintro E w2 ⟨rfl, h2, h3⟩; have H2 := Lib.hid (And.intro h2 h3); clear h2 h3)
      | go_in)
    go_ret
    exact ⟨rfl, by rw [HC.out, plOf_no (by decide)]; exact H2.out.1, (Sav.of_gr HG.out).then H2.out.2⟩
  | some v =>
    have hv : numOf s = v := by unfold numOf; rw [hn]; rfl
    by_cases h0 : 0 ≤ v ∧ v ≤ 1000000000
    · have HC := Lib.hid (codeOf_in hn h0.1 h0.2)
      obtain ⟨h1, h2⟩ := h0
      rw [hv]
      go_enter Tryz.func19, Tryz.ntmps19
      go_wp2_with (first
        | (go_at_call 29; refine (rnumber_any s HS.out _ (HEN.out.gr HR.out.gr)).mono ?_; rintro E w1 ⟨rfl, hg⟩; have HG := Lib.hid hg; clear hg; rw [hn, hv])
        | go_in)
      all_goals (try (exfalso; omega))
      go_ret
      exact ⟨rfl, by rw [HC.out, plOf_at]; exact HR.out.gr' HG.out, Sav.of_gr HG.out⟩
    · have HC := Lib.hid (codeOf_out hn h0)
      have h1 : ¬ 0 ≤ v ∨ ¬ v ≤ 1000000000 := by omega
      clear h0
      rw [hv]
      rcases h1 with h1 | h1
      · have h2 : v < 0 := by omega
        go_enter Tryz.func19, Tryz.ntmps19
        go_wp2_with (first
          | (go_at_call 29; refine (rnumber_any s HS.out _ (HEN.out.gr HR.out.gr)).mono ?_; rintro E w1 ⟨rfl, hg⟩; have HG := Lib.hid hg; clear hg; rw [hn, hv])
          | (go_at_call 11; refine (rfail_ok (HR.out.gr' HG.out) _).mono ?_; rintro E w2 ⟨rfl, h2, h3⟩; have H2 := Lib.hid (And.intro h2 h3); clear h2 h3)
          | go_in)
        all_goals (try (exfalso; omega))
        go_ret
        exact ⟨rfl, by rw [HC.out, plOf_no (by decide)]; exact H2.out.1, (Sav.of_gr HG.out).then H2.out.2⟩
      · have h2 : 1000000000 < v := by omega
        have h3 : 0 ≤ v := by omega
        have h6 : decide (v ≤ 1000000000) = false := decide_eq_false h1
        go_enter Tryz.func19, Tryz.ntmps19
        go_wp2_with (first
          | (go_at_call 29; refine (rnumber_any s HS.out _ (HEN.out.gr HR.out.gr)).mono ?_; rintro E w1 ⟨rfl, hg⟩; have HG := Lib.hid hg; clear hg; rw [hn, hv])
          | (go_at_call 11; refine (rfail_ok (HR.out.gr' HG.out) _).mono ?_; rintro E w2 ⟨rfl, h4, h5⟩; have H2 := Lib.hid (And.intro h4 h5); clear h4 h5)
          | go_in)
        all_goals (try (exfalso; omega))
        go_ret
        exact ⟨rfl, by rw [HC.out, plOf_no (by decide)]; exact H2.out.1, (Sav.of_gr HG.out).then H2.out.2⟩
set_option maxRecDepth 100000 in
set_option maxHeartbeats 2000000 in
/-- .. where one is told. -/
theorem field_err {w0 w : World} {p m : Nat} {L : List Tok} {e c pl : Int} (HE : Env w0) (h : RP w0 w p m L e c pl) (hc : c ≠ 0) (s : ByteArray) (hs : s.size ≤ 2001) :
    Calls Tryz.prog 19 #[.pointer (some ⟨p, 0, none⟩), .string s] w fun E w' => E = .returned (.int .i64 (numOf s)) ∧ Gr w w' := by
  have HR := Lib.hid h
  have HEN := Lib.hid HE
  have HS := Lib.hid hs
  have HC := Lib.hid hc
  clear h HE hs hc
  cases hn : (numR s).isSome with
  | false =>
    go_enter Tryz.func19, Tryz.ntmps19
    go_wp2_with (first
      | (go_at_call 29; refine (rnumber_any s HS.out _ (HEN.out.gr HR.out.gr)).mono ?_; rintro E w1 ⟨rfl, hg⟩; have HG := Lib.hid hg; clear hg; rw [hn])
      | (go_at_call 11; refine (rfail_err (HR.out.gr' HG.out) HC.out _).mono ?_; rintro E w2 ⟨rfl, hww⟩; replace hww := hww.symm; subst hww)
      | go_in)
    go_ret
    exact ⟨rfl, HG.out⟩
  | true =>
    go_enter Tryz.func19, Tryz.ntmps19
    go_wp2_with (first
      | (go_at_call 29; refine (rnumber_any s HS.out _ (HEN.out.gr HR.out.gr)).mono ?_; rintro E w1 ⟨rfl, hg⟩; have HG := Lib.hid hg; clear hg; rw [hn])
      | (go_at_call 11; refine (rfail_err (HR.out.gr' HG.out) HC.out _).mono ?_; rintro E w2 ⟨rfl, hww⟩; replace hww := hww.symm; subst hww)
      | go_in)
    all_goals (go_ret; exact ⟨rfl, HG.out⟩)
end Go.Proofs.YthkccohigoejgaaGreatDoor

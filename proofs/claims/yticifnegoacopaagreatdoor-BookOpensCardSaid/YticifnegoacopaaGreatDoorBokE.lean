/-
  What books want of package-level variables; a number read on both sides.
-/
import Derived.Test.YticifnegoacopaaGreatDoorBokA
import Derived.Test.YticifnegoacopaaGreatDoorBokL
import Derived.Lib.AppendIntMem
import Derived.Lib.SmallJoins
import Derived.Lib.ParseIntBTie
import Derived.BigGuardPart
import Derived.Lib.Hide
namespace Go.Proofs.YticifnegoacopaaGreatDoor
open Go Go.RowKit

/-- The table that strconv.Itoa reads. -/
def Tab (w : World) : Prop := Lib.TabIs Tryz.prog w "internal/strconv.uint64pow10" .u64 Lib.pow10Tab
theorem tab_named : Tryz.prog.globalNamed "internal/strconv.uint64pow10" = some 6 := by kernel_rfl
theorem Tab.gr {w w' : World} (h : Tab w) (g : Gr w w') : Tab w' := Go.Joins.tab_stays tab_named h g (Nat.le_refl _)
/-- The package-level variables that filters read. -/
structure Env (w : World) : Prop where
  tab : Tab w
  syn : ∃ tp p, w.cell? ⟨1, 0, none⟩ = some (.iface tp p)
  rng : ∃ tp p, w.cell? ⟨2, 0, none⟩ = some (.iface tp p)
  mx : ∃ m, w.cell? ⟨0, 0, none⟩ = some (.int .i64 m)
theorem Env.gr {w w' : World} (h : Env w) (g : Gr w w') : Env w' := by
  obtain ⟨tp, p, hs⟩ := h.syn
  obtain ⟨tr, q, hr⟩ := h.rng
  obtain ⟨m, hm⟩ := h.mx
  exact ⟨h.tab.gr g, ⟨tp, p, g.cell hs⟩, ⟨tr, q, g.cell hr⟩, ⟨m, g.cell hm⟩⟩
theorem itoa_g (n : Int) (hn : Bd n) (w : World) (h : Tab w) : Calls Tryz.prog 36 #[.int .i64 n] w fun e w' => e = .returned (.string ⟨(Lib.itoa n).toArray⟩) ∧ Gr w w' :=
  (Tryz.strconv_Itoa n hn.1 hn.2 w h).mono fun e w' ⟨h1, k, os, h2⟩ => ⟨h1, by rw [h2]; exact Lib.below_grow _ w (Nat.le_refl _) k os⟩
theorem format_g (n : Int) (hn : Bd n) (w : World) (h : Tab w) : Calls Tryz.prog 55 #[.int .i64 n, .int .i64 10] w fun e w' => e = .returned (.string ⟨(Lib.itoa n).toArray⟩) ∧ Gr w w' :=
  (Tryz.strconv_FormatInt_10 n hn.1 hn.2 w h).mono fun e w' ⟨h1, k, os, h2⟩ => ⟨h1, by rw [h2]; exact Lib.below_grow _ w (Nat.le_refl _) k os⟩
theorem atoi_bd {l : List UInt8} {v : Int} (h : Lib.atoiAll l = .ok v) : Bd v := Lib.atoiAll_bounds h
/-- strconv.Atoi -/
theorem atoi_g (s : ByteArray) (hs : s.size ≤ 20001) (w : World) (h : Env w) : Calls Tryz.prog 32 #[.string s] w fun e w' => Gr w w' ∧ ((∃ v, Lib.atoiAll s.data.toList = .ok v ∧ e = .returned (.tuple #[.int .i64 v, .nilIface])) ∨ ((∀ v, Lib.atoiAll s.data.toList ≠ .ok v) ∧ ∃ z t p, e = .returned (.tuple #[.int .i64 z, .iface t p]))) := by
  cases e : Lib.atoiAll s.data.toList with
  | ok v =>
    refine (Tryz.strconv_Atoi_ok s (by omega) v e w).mono ?_
    rintro e w' ⟨rfl, h1⟩
    refine ⟨?_, .inl ⟨v, rfl, rfl⟩⟩
    rcases h1 with rfl | ⟨t, rfl⟩
    · exact Gr.refl _
    · exact Lib.bytesWorld_below _ _ _
  | range =>
    obtain ⟨tp, p, hv⟩ := h.rng
    refine (Tryz.strconv_Atoi_range s (by omega) e _ w hv (.inr ⟨tp, p, rfl⟩)).mono ?_
    rintro e w' ⟨N, rfl, _, _, h1⟩
    exact ⟨h1, .inr ⟨(fun v hv => by cases hv), _, _, _, rfl⟩⟩
  | _ =>
    obtain ⟨tp, p, hv⟩ := h.syn
    refine (Tryz.strconv_Atoi_syntax s (by omega) e _ w hv (.inr ⟨tp, p, rfl⟩)).mono ?_
    rintro e w' ⟨N, rfl, _, _, h1⟩
    exact ⟨h1, .inr ⟨(fun v hv => by cases hv), _, _, _, rfl⟩⟩
/-- strconv.ParseInt -/
theorem parse_g (s : ByteArray) (hs : s.size ≤ 20001) (w : World) (h : Env w) : Calls Tryz.prog 54 #[.string s, .int .i64 10, .int .i64 64] w fun e w' => Gr w w' ∧ ((∃ v, Lib.atoiAll s.data.toList = .ok v ∧ e = .returned (.tuple #[.int .i64 v, .nilIface])) ∨ ((∀ v, Lib.atoiAll s.data.toList ≠ .ok v) ∧ ∃ z t p, e = .returned (.tuple #[.int .i64 z, .iface t p]))) := by
  rw [← Lib.parseIntB_64]
  cases e : Lib.parseIntB 64 s.data.toList with
  | ok v =>
    refine (Tryz.strconv_ParseInt_10_at64_ok s (by omega) v e w).mono ?_
    rintro e w' ⟨rfl, h1⟩
    refine ⟨?_, .inl ⟨v, rfl, rfl⟩⟩
    rcases h1 with rfl | ⟨t, rfl⟩
    · exact Gr.refl _
    · exact Lib.bytesWorld_below _ _ _
  | range =>
    obtain ⟨tp, p, hv⟩ := h.rng
    refine (Tryz.strconv_ParseInt_10_at64_range s (by omega) e _ w hv (.inr ⟨tp, p, rfl⟩)).mono ?_
    rintro e w' ⟨N, rfl, _, _, h1⟩
    exact ⟨h1, .inr ⟨(fun v hv => by cases hv), _, _, _, rfl⟩⟩
  | _ =>
    obtain ⟨tp, p, hv⟩ := h.syn
    refine (Tryz.strconv_ParseInt_10_at64_syntax s (by omega) e _ w hv (.inr ⟨tp, p, rfl⟩)).mono ?_
    rintro e w' ⟨N, rfl, _, _, h1⟩
    exact ⟨h1, .inr ⟨(fun v hv => by cases hv), _, _, _, rfl⟩⟩
theorem parse_g_ok (s : ByteArray) (hs : s.size ≤ 20001) (w : World) (h : Env w) {v : Int} (hv : Lib.atoiAll s.data.toList = .ok v) : Calls Tryz.prog 54 #[.string s, .int .i64 10, .int .i64 64] w fun e w' => e = .returned (.tuple #[.int .i64 v, .nilIface]) ∧ Gr w w' := by
  refine (parse_g s hs w h).mono ?_
  rintro e w' ⟨hg, ⟨u, hu, he⟩ | ⟨hn, _⟩⟩
  · rw [hv] at hu
    injection hu with hu
    subst hu
    exact ⟨he, hg⟩
  · exact absurd hv (hn v)
theorem parse_g_no (s : ByteArray) (hs : s.size ≤ 20001) (w : World) (h : Env w) (hv : ∀ v, Lib.atoiAll s.data.toList ≠ .ok v) : Calls Tryz.prog 54 #[.string s, .int .i64 10, .int .i64 64] w fun e w' => (∃ z t p, e = .returned (.tuple #[.int .i64 z, .iface t p])) ∧ Gr w w' := by
  refine (parse_g s hs w h).mono ?_
  rintro e w' ⟨hg, ⟨u, hu, _⟩ | ⟨_, he⟩⟩
  · exact absurd hu (hv u)
  · exact ⟨he, hg⟩
theorem atoi_g_ok (s : ByteArray) (hs : s.size ≤ 20001) (w : World) (h : Env w) {v : Int} (hv : Lib.atoiAll s.data.toList = .ok v) : Calls Tryz.prog 32 #[.string s] w fun e w' => e = .returned (.tuple #[.int .i64 v, .nilIface]) ∧ Gr w w' := by
  refine (atoi_g s hs w h).mono ?_
  rintro e w' ⟨hg, ⟨u, hu, he⟩ | ⟨hn, _⟩⟩
  · rw [hv] at hu
    injection hu with hu
    subst hu
    exact ⟨he, hg⟩
  · exact absurd hv (hn v)
theorem atoi_g_no (s : ByteArray) (hs : s.size ≤ 20001) (w : World) (h : Env w) (hv : ∀ v, Lib.atoiAll s.data.toList ≠ .ok v) : Calls Tryz.prog 32 #[.string s] w fun e w' => (∃ z t p, e = .returned (.tuple #[.int .i64 z, .iface t p])) ∧ Gr w w' := by
  refine (atoi_g s hs w h).mono ?_
  rintro e w' ⟨hg, ⟨u, hu, _⟩ | ⟨_, he⟩⟩
  · exact absurd hu (hv u)
  · exact ⟨he, hg⟩
theorem numR_no {s : ByteArray} (h : ∀ v, Lib.atoiAll s.data.toList ≠ .ok v) : numR s = none := by
  unfold numR
  split
  · exact absurd (by assumption) (h _)
  · rfl
theorem numR_yes {s : ByteArray} {v : Int} (h : Lib.atoiAll s.data.toList = .ok v) (h2 : (Lib.itoa v == s.toList) = true) : numR s = some v := by
  unfold numR
  rw [h]
  exact if_pos h2
theorem numR_other {s : ByteArray} {v : Int} (h : Lib.atoiAll s.data.toList = .ok v) (h2 : (Lib.itoa v == s.toList) = false) : numR s = none := by
  unfold numR
  rw [h]
  exact if_neg (by rw [h2]; decide)
/-- The reference's Number. -/
theorem rnumber_any (s : ByteArray) (hs : s.size ≤ 20001) (w : World) (h : Env w) : Calls Tryz.prog 34 #[.string s] w fun e w' => e = .returned (.tuple #[.int .i64 (numOf s), .bool (numR s).isSome]) ∧ Gr w w' := by
  have HE := Lib.hid h
  have HS := Lib.hid hs
  clear h hs
  rcases Classical.em (∃ v, Lib.atoiAll s.data.toList = .ok v) with ⟨v, hv⟩ | hno
  · have HB := Lib.hid (atoi_bd hv)
    have HV := Lib.hid hv
    clear hv
    cases hq : (Lib.itoa v == s.toList) with
    | true =>
      have HN := Lib.hid (numR_yes HV.out hq)
      go_enter Tryz.func34, Tryz.ntmps34
      go_wp2_with (first
        | (go_at_call 54; refine (parse_g_ok s HS.out _ HE.out HV.out).mono ?_; rintro e w1 ⟨rfl, hg⟩; have HG := Lib.hid hg; clear hg)
        | (go_at_call 55; refine (format_g v HB.out _ (HE.out.gr HG.out).tab).mono ?_; rintro e w2 ⟨rfl, hg2⟩; have HG2 := Lib.hid hg2; clear hg2))
      exact bodyPost_ret (v := .tuple #[.int .i64 v, .bool true]) (by simp [results, Tryz.results34, go_sem]) rfl ⟨by unfold numOf; rw [HN.out]; rfl, HG.out.trans HG2.out⟩
    | false =>
      have HN := Lib.hid (numR_other HV.out hq)
      go_enter Tryz.func34, Tryz.ntmps34
      go_wp2_with (first
        | (go_at_call 54; refine (parse_g_ok s HS.out _ HE.out HV.out).mono ?_; rintro e w1 ⟨rfl, hg⟩; have HG := Lib.hid hg; clear hg)
        | (go_at_call 55; refine (format_g v HB.out _ (HE.out.gr HG.out).tab).mono ?_; rintro e w2 ⟨rfl, hg2⟩; have HG2 := Lib.hid hg2; clear hg2))
      exact bodyPost_ret (v := .tuple #[.int .i64 0, .bool false]) (by simp [results, Tryz.results34, go_sem]) rfl ⟨by unfold numOf; rw [HN.out]; rfl, HG.out.trans HG2.out⟩
  · have hv : ∀ v, Lib.atoiAll s.data.toList ≠ .ok v := fun v e => hno ⟨v, e⟩
    have HV := Lib.hid hv
    have HN := Lib.hid (numR_no hv)
    clear hv hno
    go_enter Tryz.func34, Tryz.ntmps34
    go_wp2_with (go_at_call 54; refine (parse_g_no s HS.out _ HE.out HV.out).mono ?_; rintro e w1 ⟨⟨z, t, p, rfl⟩, hg⟩; have HG := Lib.hid hg; clear hg)
    exact bodyPost_ret (v := .tuple #[.int .i64 0, .bool false]) (by simp [results, Tryz.results34, go_sem]) rfl ⟨by unfold numOf; rw [HN.out]; rfl, HG.out⟩
end Go.Proofs.YticifnegoacopaaGreatDoor

/-
  The program's one: a filter is read.
-/
import Derived.Test.YthkccohigoejgaaGreatDoorFltO
namespace Go.Proofs.YthkccohigoejgaaGreatDoor
open Go Go.RowKit

theorem sidx0 (v0 v1 v2 v3 v4 : Value) (w : World) : Sem.run Tryz.prog (Instr.index 68 (.agg #[v0, v1, v2, v3, v4]) (.int .i64 0)) w = .ok v0 w := by kernel_rfl
theorem sidx1 (v0 v1 v2 v3 v4 : Value) (w : World) : Sem.run Tryz.prog (Instr.index 68 (.agg #[v0, v1, v2, v3, v4]) (.int .i64 1)) w = .ok v1 w := by kernel_rfl
theorem sidx2 (v0 v1 v2 v3 v4 : Value) (w : World) : Sem.run Tryz.prog (Instr.index 68 (.agg #[v0, v1, v2, v3, v4]) (.int .i64 2)) w = .ok v2 w := by kernel_rfl
theorem sidx3 (v0 v1 v2 v3 v4 : Value) (w : World) : Sem.run Tryz.prog (Instr.index 68 (.agg #[v0, v1, v2, v3, v4]) (.int .i64 3)) w = .ok v3 w := by kernel_rfl
theorem sidx4 (v0 v1 v2 v3 v4 : Value) (w : World) : Sem.run Tryz.prog (Instr.index 68 (.agg #[v0, v1, v2, v3, v4]) (.int .i64 4)) w = .ok v4 w := by kernel_rfl
section
variable {d : Nat} {L r : List Tok}
theorem po_any (h : isT kAny L = some r) : pOne (d + 1) L = .ok .any r := by rw [pOne, h]
theorem po_not (h : isT kAny L = none) (h1 : isT kNot L = some r) : pOne (d + 1) L = pNot (pOne d r) := by rw [pOne]; simp only [h, h1]
theorem po_open (h : isT kAny L = none) (h1 : isT kNot L = none) (h2 : isT kOpen L = some r) : pOne (d + 1) L = pList (pOne d) (r.length + 1) r [] 0 := by rw [pOne]; simp only [h, h1, h2]
theorem po_fld (h : isT kAny L = none) (h1 : isT kNot L = none) (h2 : isT kOpen L = none) : pOne (d + 1) L = pFld 5 L := by rw [pOne]; simp only [h, h1, h2]
theorem pf_hit {k : Nat} (h : isT (fname (4 - k)) L = some r) : pFld (k + 1) L = pTest (4 - k) r := by rw [pFld, h]
theorem pf_miss {k : Nat} (h : isT (fname (4 - k)) L = none) : pFld (k + 1) L = pFld k L := by rw [pFld, h]
end
set_option maxRecDepth 100000 in
set_option maxHeartbeats 8000000 in
theorem one_zero {w0 w : World} {r m k : Nat} {L : List Tok} {e : Int} (h : Rd w0 w r m L k e) :
    Calls Tryz.prog 12 #[.pointer (some ⟨r, 0, none⟩), .int .i64 0] w fun E w' => PAns w0 w w' r m 0 L e E (pOne 0 (L.drop k)) := by
  have HR := Lib.hid h
  clear h
  go_enter Tryz.func12, Tryz.ntmps12
  go_wp2_with (go_at_call 13; refine (fail_any HR.out _).mono ?_; rintro e' w9 ⟨z, bz, rfl, hz1, hz2, hz3⟩; have HZ := Lib.hid (And.intro hz1 (And.intro hz2 hz3)); clear hz1 hz2 hz3)
  exact bodyPost_ret (v := .tuple #[.nilIface, z]) (by simp [results, Tryz.results12, go_sem]) rfl (by exact PAns.fail (Sav.refl _ _) HZ.out.1 HZ.out.2.1 HZ.out.2.2)
set_option maxRecDepth 100000 in
set_option maxHeartbeats 8000000 in
theorem one_succ {w0 : World} {r m : Nat} {L : List Tok} {e : Int} (HE : Env w0) (d : Nat) (hd : d < 20)
    (IH : ∀ {w : World} {k : Nat}, Rd w0 w r m L k e → Calls Tryz.prog 12 #[.pointer (some ⟨r, 0, none⟩), .int .i64 (d : Int)] w fun E w' => PAns w0 w w' r m d L e E (pOne d (L.drop k)))
    {w : World} {k : Nat} (h : Rd w0 w r m L k e) :
    Calls Tryz.prog 12 #[.pointer (some ⟨r, 0, none⟩), .int .i64 ((d : Int) + 1)] w fun E w' => PAns w0 w w' r m (d + 1) L e E (pOne (d + 1) (L.drop k)) := by
  have HR := Lib.hid h
  have HEN := Lib.hid HE
  clear h HE
  have hd1 : (d : Int) < 20 := by omega
  have hd0 : (0 : Int) ≤ (d : Int) := by omega
  have i0 := sidx0
  have i1 := sidx1
  have i2 := sidx2
  have i3 := sidx3
  have i4 := sidx4
  go_enter Tryz.func12, Tryz.ntmps12
  go_wp2_with (first
    | (go_at_call 21; refine (take_took H5.out.2.2.1 _).mono ?_; rintro e' w6 ⟨hb6, k6, rfl, h6⟩; have H6 := Lib.hid h6; clear h6; have HE6 := HEN.out.gr H6.out.2.2.1.gr; have z0 : w6.cell? ⟨2, 0, none⟩ = some (.string ⟨#[97, 116]⟩) := HE6.fld 0 (by omega); have z1 : w6.cell? ⟨2, 1, none⟩ = some (.string ⟨#[108, 101, 110]⟩) := HE6.fld 1 (by omega); have z2 : w6.cell? ⟨2, 2, none⟩ = some (.string ⟨#[102, 108, 111, 119]⟩) := HE6.fld 2 (by omega); have z3 : w6.cell? ⟨2, 3, none⟩ = some (.string ⟨#[98, 97, 110, 100]⟩) := HE6.fld 3 (by omega); have z4 : w6.cell? ⟨2, 4, none⟩ = some (.string ⟨#[109, 97, 114, 107]⟩) := HE6.fld 4 (by omega); clear HE6)
    | (go_at_call 21; refine (take_took H4.out.2.2.1 _).mono ?_; rintro e' w5 ⟨hb5, k5, rfl, h5⟩; have H5 := Lib.hid h5; clear h5)
    | (go_at_call 21; refine (take_took HR.out _).mono ?_; rintro e' w4 ⟨hb4, k4, rfl, h4⟩; have H4 := Lib.hid h4; clear h4))
  · obtain rfl : hb4 = true := (by first | assumption | simp_all)
    exact bodyPost_ret (v := .tuple #[.iface 65 (.agg #[]), .nilIface]) (by simp [results, Tryz.results12, go_sem]) rfl (by rw [po_any H4.out.yes]; exact ⟨_, k4, rfl, rfl, H4.out.2.2.1, rfl, H4.out.2.2.2⟩)
  · obtain rfl : hb4 = false := (by first | assumption | simp_all)
    obtain rfl : hb5 = true := (by first | assumption | simp_all)
    obtain ⟨h4, rfl⟩ := H4.out.no
    have h5 := H5.out.yes
    have HP0 := Lib.hid (po_not (d := d) h4 h5)
    have IHk := IH H5.out.2.2.1
    clear h4 h5
    cases hP : pOne d (L.drop k5) with
    | err c R =>
      rw [hP] at IHk HP0
      refine IHk.mono ?_
      rintro e' w7 ⟨v, u, b, rfl, hv, ⟨rfl, ha⟩, hb, hs⟩
      have H7 := Lib.hid (And.intro ha (And.intro hb hs))
      clear ha hb hs
      rcases hv with rfl | ⟨tt, xx, rfl⟩
      · go_wp2
        exact bodyPost_ret (v := .tuple #[.iface 67 (.agg #[.nilIface]), .iface 69 (.pointer (some ⟨b, 0, none⟩))]) (by simp [results, Tryz.results12, go_sem]) rfl (by rw [HP0.out]; exact ⟨_, _, b, rfl, .inr ⟨_, _, rfl⟩, ⟨rfl, H7.out.1⟩, Nat.le_trans (H4.out.2.2.2.then H5.out.2.2.2).size H7.out.2.1, (H4.out.2.2.2.then H5.out.2.2.2).then H7.out.2.2⟩)
      · go_wp2
        exact bodyPost_ret (v := .tuple #[.iface 67 (.agg #[.iface tt xx]), .iface 69 (.pointer (some ⟨b, 0, none⟩))]) (by simp [results, Tryz.results12, go_sem]) rfl (by rw [HP0.out]; exact ⟨_, _, b, rfl, .inr ⟨_, _, rfl⟩, ⟨rfl, H7.out.1⟩, Nat.le_trans (H4.out.2.2.2.then H5.out.2.2.2).size H7.out.2.1, (H4.out.2.2.2.then H5.out.2.2.2).then H7.out.2.2⟩)
    | ok f R =>
      rw [hP] at IHk HP0
      refine IHk.mono ?_
      rintro e' w7 ⟨v, k7, rfl, hrr, hrd, hv, hs⟩
      obtain ⟨tt, xx, rfl⟩ := hv.iface
      have H7 := Lib.hid (And.intro hrr (And.intro hrd (And.intro hv hs)))
      clear hrr hrd hv hs
      go_wp2
      exact bodyPost_ret (v := .tuple #[.iface 67 (.agg #[.iface tt xx]), .nilIface]) (by simp [results, Tryz.results12, go_sem]) rfl (by rw [HP0.out]; exact ⟨_, k7, rfl, H7.out.1, H7.out.2.1, ⟨_, rfl, H7.out.2.2.1.mono fun g hg => Nat.le_trans (H4.out.2.2.2.then H5.out.2.2.2).size hg⟩, (H4.out.2.2.2.then H5.out.2.2.2).then H7.out.2.2.2⟩)
  · obtain rfl : hb4 = false := (by first | assumption | simp_all)
    obtain rfl : hb5 = false := (by first | assumption | simp_all)
    obtain rfl : hb6 = true := (by first | assumption | simp_all)
    obtain ⟨h4, rfl⟩ := H4.out.no
    obtain ⟨h5, rfl⟩ := H5.out.no
    have h6 := H6.out.yes
    have HP0 := Lib.hid (po_open (d := d) h4 h5 h6)
    have IHk := list_of hd IH H6.out.2.2.1
    have HSV := Lib.hid ((H4.out.2.2.2.then H5.out.2.2.2).then H6.out.2.2.2)
    clear h4 h5 h6
    cases hP : pList (pOne d) ((L.drop k6).length + 1) (L.drop k6) [] 0 with
    | err c R =>
      rw [hP] at IHk HP0
      refine IHk.mono ?_
      rintro e' w7 hp
      have HP7 := Lib.hid hp
      obtain ⟨v, u, b, rfl, _⟩ := hp
      go_wp2
      exact bodyPost_ret (v := .tuple #[v, u]) (by simp [results, Tryz.results12, go_sem]) rfl (by rw [HP0.out]; exact PAns.from HSV.out HP7.out)
    | ok f R =>
      rw [hP] at IHk HP0
      refine IHk.mono ?_
      rintro e' w7 hp
      have HP7 := Lib.hid hp
      obtain ⟨v, k7, rfl, _⟩ := hp
      go_wp2
      exact bodyPost_ret (v := .tuple #[v, .nilIface]) (by simp [results, Tryz.results12, go_sem]) rfl (by rw [HP0.out]; exact PAns.from HSV.out HP7.out)
  · obtain rfl : hb4 = false := (by first | assumption | simp_all)
    obtain rfl : hb5 = false := (by first | assumption | simp_all)
    obtain rfl : hb6 = false := (by first | assumption | simp_all)
    obtain ⟨h4, rfl⟩ := H4.out.no
    obtain ⟨h5, rfl⟩ := H5.out.no
    obtain ⟨h6, rfl⟩ := H6.out.no
    have HP0 := Lib.hid (po_fld (d := d) h4 h5 h6)
    have HR6 := H6.out.2.2.1
    have HSV := (H4.out.2.2.2.then H5.out.2.2.2).then H6.out.2.2.2
    have HR0 := Lib.hid HR6
    have HS0 := Lib.hid HSV
    clear h4 h5 h6 HR6 HSV H4 H5 H6 z0 z1 z2 z3 z4
    go_loopw [42] (fun s wr => ∃ i : Nat, i ≤ 5 ∧ s = .int .i64 (i : Int) ∧ Hid (Rd w0 wr r m L k6 e) ∧ Hid (Sav (fun q => q = r) w wr) ∧ Hid (pFld 5 (L.drop k6) = pFld (5 - i) (L.drop k6))) (fun s _ => 5 - (intOf s).toNat)
    case atStart => exact ⟨0, by omega, rfl, HR0, HS0, Lib.hid rfl⟩
    case round =>
      clear HR0 HS0
      obtain ⟨i, hi, rfl, HR, HS, HF⟩ := hrel
      by_cases hlt : i < 5
      · rcases (by omega : i = 0 ∨ i = 1 ∨ i = 2 ∨ i = 3 ∨ i = 4) with rfl | rfl | rfl | rfl | rfl
        · go_wp2_with (go_at_call 21; refine (take_took HR.out (fname 0)).mono ?_; rintro e' w7 ⟨hb7, k7, rfl, h7⟩; have H7 := Lib.hid h7; clear h7)
          · obtain rfl : hb7 = true := (by first | assumption | simp_all)
            have h7 := H7.out.yes
            have HP1 : Hid (pFld 5 (L.drop k6) = pTest 0 (L.drop k7)) := Lib.hid (pf_hit (k := 4) h7)
            have HPT := test_any H7.out.2.2.1 HEN.out d 0 (by omega)
            have HSV := Lib.hid (HS.out.then H7.out.2.2.2)
            clear h7
            cases hP : pTest 0 (L.drop k7) with
            | err c R =>
              rw [hP] at HPT HP1
              refine HPT.mono ?_
              rintro e' w8 hp
              have HP7 := Lib.hid hp
              obtain ⟨v, u, b, rfl, _⟩ := hp
              go_wp2
              exact bodyPost_ret (v := .tuple #[v, u]) (by simp [results, Tryz.results12, go_sem]) rfl (by rw [HP0.out, HP1.out]; exact PAns.from HSV.out HP7.out)
            | ok f R =>
              rw [hP] at HPT HP1
              refine HPT.mono ?_
              rintro e' w8 hp
              have HP7 := Lib.hid hp
              obtain ⟨v, k8, rfl, _⟩ := hp
              go_wp2
              exact bodyPost_ret (v := .tuple #[v, .nilIface]) (by simp [results, Tryz.results12, go_sem]) rfl (by rw [HP0.out, HP1.out]; exact PAns.from HSV.out HP7.out)
          · obtain rfl : hb7 = false := (by first | assumption | simp_all)
            obtain ⟨h7, rfl⟩ := H7.out.no
            have HP1 : Hid (pFld 5 (L.drop k7) = pFld 4 (L.drop k7)) := Lib.hid (pf_miss (k := 4) h7)
            have HSV := Lib.hid (HS.out.then H7.out.2.2.2)
            clear h7
            go_roundw
            case rel => exact ⟨1, by omega, by go_num, H7.out.2.2.1, HSV, HP1⟩
            case measure => simp [intOf]
        · go_wp2_with (go_at_call 21; refine (take_took HR.out (fname 1)).mono ?_; rintro e' w7 ⟨hb7, k7, rfl, h7⟩; have H7 := Lib.hid h7; clear h7)
          · obtain rfl : hb7 = true := (by first | assumption | simp_all)
            have h7 := H7.out.yes
            have HP1 : Hid (pFld 4 (L.drop k6) = pTest 1 (L.drop k7)) := Lib.hid (pf_hit (k := 3) h7)
            have HPT := test_any H7.out.2.2.1 HEN.out d 1 (by omega)
            have HSV := Lib.hid (HS.out.then H7.out.2.2.2)
            clear h7
            cases hP : pTest 1 (L.drop k7) with
            | err c R =>
              rw [hP] at HPT HP1
              refine HPT.mono ?_
              rintro e' w8 hp
              have HP7 := Lib.hid hp
              obtain ⟨v, u, b, rfl, _⟩ := hp
              go_wp2
              exact bodyPost_ret (v := .tuple #[v, u]) (by simp [results, Tryz.results12, go_sem]) rfl (by rw [HP0.out, HF.out, HP1.out]; exact PAns.from HSV.out HP7.out)
            | ok f R =>
              rw [hP] at HPT HP1
              refine HPT.mono ?_
              rintro e' w8 hp
              have HP7 := Lib.hid hp
              obtain ⟨v, k8, rfl, _⟩ := hp
              go_wp2
              exact bodyPost_ret (v := .tuple #[v, .nilIface]) (by simp [results, Tryz.results12, go_sem]) rfl (by rw [HP0.out, HF.out, HP1.out]; exact PAns.from HSV.out HP7.out)
          · obtain rfl : hb7 = false := (by first | assumption | simp_all)
            obtain ⟨h7, rfl⟩ := H7.out.no
            have HP1 : Hid (pFld 4 (L.drop k7) = pFld 3 (L.drop k7)) := Lib.hid (pf_miss (k := 3) h7)
            have HSV := Lib.hid (HS.out.then H7.out.2.2.2)
            clear h7
            go_roundw
            case rel => exact ⟨2, by omega, by go_num, H7.out.2.2.1, HSV, Lib.hid (by rw [HF.out]; exact HP1.out)⟩
            case measure => simp [intOf]
        · go_wp2_with (go_at_call 21; refine (take_took HR.out (fname 2)).mono ?_; rintro e' w7 ⟨hb7, k7, rfl, h7⟩; have H7 := Lib.hid h7; clear h7)
          · obtain rfl : hb7 = true := (by first | assumption | simp_all)
            have h7 := H7.out.yes
            have HP1 : Hid (pFld 3 (L.drop k6) = pTest 2 (L.drop k7)) := Lib.hid (pf_hit (k := 2) h7)
            have HPT := test_any H7.out.2.2.1 HEN.out d 2 (by omega)
            have HSV := Lib.hid (HS.out.then H7.out.2.2.2)
            clear h7
            cases hP : pTest 2 (L.drop k7) with
            | err c R =>
              rw [hP] at HPT HP1
              refine HPT.mono ?_
              rintro e' w8 hp
              have HP7 := Lib.hid hp
              obtain ⟨v, u, b, rfl, _⟩ := hp
              go_wp2
              exact bodyPost_ret (v := .tuple #[v, u]) (by simp [results, Tryz.results12, go_sem]) rfl (by rw [HP0.out, HF.out, HP1.out]; exact PAns.from HSV.out HP7.out)
            | ok f R =>
              rw [hP] at HPT HP1
              refine HPT.mono ?_
              rintro e' w8 hp
              have HP7 := Lib.hid hp
              obtain ⟨v, k8, rfl, _⟩ := hp
              go_wp2
              exact bodyPost_ret (v := .tuple #[v, .nilIface]) (by simp [results, Tryz.results12, go_sem]) rfl (by rw [HP0.out, HF.out, HP1.out]; exact PAns.from HSV.out HP7.out)
          · obtain rfl : hb7 = false := (by first | assumption | simp_all)
            obtain ⟨h7, rfl⟩ := H7.out.no
            have HP1 : Hid (pFld 3 (L.drop k7) = pFld 2 (L.drop k7)) := Lib.hid (pf_miss (k := 2) h7)
            have HSV := Lib.hid (HS.out.then H7.out.2.2.2)
            clear h7
            go_roundw
            case rel => exact ⟨3, by omega, by go_num, H7.out.2.2.1, HSV, Lib.hid (by rw [HF.out]; exact HP1.out)⟩
            case measure => simp [intOf]
        · go_wp2_with (go_at_call 21; refine (take_took HR.out (fname 3)).mono ?_; rintro e' w7 ⟨hb7, k7, rfl, h7⟩; have H7 := Lib.hid h7; clear h7)
          · obtain rfl : hb7 = true := (by first | assumption | simp_all)
            have h7 := H7.out.yes
            have HP1 : Hid (pFld 2 (L.drop k6) = pTest 3 (L.drop k7)) := Lib.hid (pf_hit (k := 1) h7)
            have HPT := test_any H7.out.2.2.1 HEN.out d 3 (by omega)
            have HSV := Lib.hid (HS.out.then H7.out.2.2.2)
            clear h7
            cases hP : pTest 3 (L.drop k7) with
            | err c R =>
              rw [hP] at HPT HP1
              refine HPT.mono ?_
              rintro e' w8 hp
              have HP7 := Lib.hid hp
              obtain ⟨v, u, b, rfl, _⟩ := hp
              go_wp2
              exact bodyPost_ret (v := .tuple #[v, u]) (by simp [results, Tryz.results12, go_sem]) rfl (by rw [HP0.out, HF.out, HP1.out]; exact PAns.from HSV.out HP7.out)
            | ok f R =>
              rw [hP] at HPT HP1
              refine HPT.mono ?_
              rintro e' w8 hp
              have HP7 := Lib.hid hp
              obtain ⟨v, k8, rfl, _⟩ := hp
              go_wp2
              exact bodyPost_ret (v := .tuple #[v, .nilIface]) (by simp [results, Tryz.results12, go_sem]) rfl (by rw [HP0.out, HF.out, HP1.out]; exact PAns.from HSV.out HP7.out)
          · obtain rfl : hb7 = false := (by first | assumption | simp_all)
            obtain ⟨h7, rfl⟩ := H7.out.no
            have HP1 : Hid (pFld 2 (L.drop k7) = pFld 1 (L.drop k7)) := Lib.hid (pf_miss (k := 1) h7)
            have HSV := Lib.hid (HS.out.then H7.out.2.2.2)
            clear h7
            go_roundw
            case rel => exact ⟨4, by omega, by go_num, H7.out.2.2.1, HSV, Lib.hid (by rw [HF.out]; exact HP1.out)⟩
            case measure => simp [intOf]
        · go_wp2_with (go_at_call 21; refine (take_took HR.out (fname 4)).mono ?_; rintro e' w7 ⟨hb7, k7, rfl, h7⟩; have H7 := Lib.hid h7; clear h7)
          · obtain rfl : hb7 = true := (by first | assumption | simp_all)
            have h7 := H7.out.yes
            have HP1 : Hid (pFld 1 (L.drop k6) = pTest 4 (L.drop k7)) := Lib.hid (pf_hit (k := 0) h7)
            have HPT := test_any H7.out.2.2.1 HEN.out d 4 (by omega)
            have HSV := Lib.hid (HS.out.then H7.out.2.2.2)
            clear h7
            cases hP : pTest 4 (L.drop k7) with
            | err c R =>
              rw [hP] at HPT HP1
              refine HPT.mono ?_
              rintro e' w8 hp
              have HP7 := Lib.hid hp
              obtain ⟨v, u, b, rfl, _⟩ := hp
              go_wp2
              exact bodyPost_ret (v := .tuple #[v, u]) (by simp [results, Tryz.results12, go_sem]) rfl (by rw [HP0.out, HF.out, HP1.out]; exact PAns.from HSV.out HP7.out)
            | ok f R =>
              rw [hP] at HPT HP1
              refine HPT.mono ?_
              rintro e' w8 hp
              have HP7 := Lib.hid hp
              obtain ⟨v, k8, rfl, _⟩ := hp
              go_wp2
              exact bodyPost_ret (v := .tuple #[v, .nilIface]) (by simp [results, Tryz.results12, go_sem]) rfl (by rw [HP0.out, HF.out, HP1.out]; exact PAns.from HSV.out HP7.out)
          · obtain rfl : hb7 = false := (by first | assumption | simp_all)
            obtain ⟨h7, rfl⟩ := H7.out.no
            have HP1 : Hid (pFld 1 (L.drop k7) = pFld 0 (L.drop k7)) := Lib.hid (pf_miss (k := 0) h7)
            have HSV := Lib.hid (HS.out.then H7.out.2.2.2)
            clear h7
            go_roundw
            case rel => exact ⟨5, by omega, by go_num, H7.out.2.2.1, HSV, Lib.hid (by rw [HF.out]; exact HP1.out)⟩
            case measure => simp [intOf]
      · obtain rfl : i = 5 := by omega
        go_wp2_with (go_at_call 13; refine (fail_any HR.out _).mono ?_; rintro e' w9 ⟨z, bz, rfl, hz1, hz2, hz3⟩; have HZ := Lib.hid (And.intro hz1 (And.intro hz2 hz3)); clear hz1 hz2 hz3)
        exact bodyPost_ret (v := .tuple #[.nilIface, z]) (by simp [results, Tryz.results12, go_sem]) rfl (by rw [HP0.out, HF.out]; exact PAns.fail HS.out HZ.out.1 HZ.out.2.1 HZ.out.2.2)
end Go.Proofs.YthkccohigoejgaaGreatDoor

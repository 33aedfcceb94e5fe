/-
  A name: the program's Name.
-/
import Derived.Test.YticifnegoacopaaGreatDoorBokN
import Derived.Test.YticifnegoacopaaGreatDoorBokL
import Derived.Shelf.Strings.SlTrimAscii
namespace Go.Proofs.YticifnegoacopaaGreatDoor
open Go Go.RowKit

theorem set_ascii : (kSet.data.toList.all fun b => decide (b.toNat < 128)) = true := by kernel_rfl
theorem trim_any (s : ByteArray) (hs : s.size ≤ 3000) (w : World) : Calls Tryz.prog 25 #[.string s, .string kSet] w fun e w' => e = .returned (.string ⟨(Lib.trimS s.data.toList kSet.data.toList).toArray⟩) ∧ Gr w w' :=
  Any.strings_Trim_laid Tryz.lays160 (by kernel_rfl) s kSet w (by omega) (by decide) (ascii_of_all set_ascii)
/-- What is left of it. -/
def trimmed (s : ByteArray) : ByteArray := ⟨(Lib.trimS s.data.toList kSet.data.toList).toArray⟩
theorem trimmed_yes {s : ByteArray} (h : s.data.toList.all nameB = true) : trimmed s = ⟨#[]⟩ := by
  unfold trimmed
  rw [(trim_name s).2 h]
theorem trimmed_no {s : ByteArray} (h : s.data.toList.all nameB = false) : trimmed s ≠ ⟨#[]⟩ := fun e => by
  have h1 : Lib.trimS s.data.toList kSet.data.toList = [] := by
    have h2 := congrArg (fun b => b.data.toList) e
    simpa [trimmed] using h2
  rw [(trim_name s).1 h1] at h
  cases h
theorem trim_any2 (s : ByteArray) (hs : s.size ≤ 3000) (w : World) : Calls Tryz.prog 25 #[.string s, .string kSet] w fun e w' => e = .returned (.string (trimmed s)) ∧ Gr w w' := trim_any s hs w

theorem isE_false {s : ByteArray} (h : s ≠ ⟨#[]⟩) : s.toList.isEmpty = false := by
  cases hq : s.toList with
  | nil =>
    exfalso
    apply h
    apply ba_eq
    rw [← Lib.toList_data, hq]
  | cons x l => rfl
set_option maxRecDepth 100000 in
set_option maxHeartbeats 4000000 in
/-- The program's Name. -/
theorem name_any (s : ByteArray) (hs : s.size ≤ 3000) (w : World) : Calls Tryz.prog 8 #[.string s] w fun e w' => e = .returned (.bool (nameOk s)) ∧ Gr w w' := by
  have HS := Lib.hid hs
  have HT := Lib.hid (trim_any2 s hs w)
  have hk : (⟨#[97, 98, 99, 100, 101, 102, 103, 104, 105, 106, 107, 108, 109, 110, 111, 112, 113, 114, 115, 116, 117, 118, 119, 120, 121, 122, 48, 49, 50, 51, 52, 53, 54, 55, 56, 57, 45]⟩ : ByteArray) = kSet := rfl
  have HK := Lib.hid hk
  clear hk hs
  by_cases h0 : s = ⟨#[]⟩
  · subst h0
    have HF := Lib.hid (nameOk_long (s := ⟨#[]⟩) (.inl rfl))
    have HG := Lib.hid (Gr.refl w)
    go_enter Tryz.func8, Tryz.ntmps8
    go_wp2
    go_ret
    exact ⟨by rw [HF.out]; rfl, HG.out⟩
  · have hsz : s.size ≠ 0 := fun e => h0 (by
      apply ByteArray.ext
      exact Array.eq_empty_of_size_eq_zero e)
    have HZ := Lib.hid hsz
    have he := isE_false h0
    clear hsz h0
    by_cases h1 : s.size ≤ 12
    · have k1 : (s.size : Int) ≤ 12 := by omega
      cases hq : s.data.toList.all nameB with
      | true =>
        have HF : Hid (nameOk s = true) := Lib.hid (by rw [nameOk_in HZ.out h1]; exact hq)
        have HY := Lib.hid (trimmed_yes hq)
        clear hq
        go_enter Tryz.func8, Tryz.ntmps8
        go_wp2_with (go_at_call 25; rw [HK.out]; refine HT.out.mono ?_; rintro e w1 ⟨rfl, hg⟩; have HG := Lib.hid hg; clear hg; rw [HY.out])
        go_ret
        exact ⟨by rw [HF.out]; rfl, HG.out⟩
      | false =>
        have HF : Hid (nameOk s = false) := Lib.hid (by rw [nameOk_in HZ.out h1]; exact hq)
        have hn := isE_false (trimmed_no hq)
        clear hq
        go_enter Tryz.func8, Tryz.ntmps8
        go_wp2_with (go_at_call 25; rw [HK.out]; refine HT.out.mono ?_; rintro e w1 ⟨rfl, hg⟩; have HG := Lib.hid hg; clear hg)
        go_ret
        exact ⟨by rw [HF.out]; rfl, HG.out⟩
    · have k1 : ¬ (s.size : Int) ≤ 12 := by omega
      have HF := Lib.hid (nameOk_long (s := s) (.inr (by omega)))
      have HG := Lib.hid (Gr.refl w)
      go_enter Tryz.func8, Tryz.ntmps8
      go_wp2
      go_ret
      exact ⟨by rw [HF.out]; rfl, HG.out⟩
end Go.Proofs.YticifnegoacopaaGreatDoor

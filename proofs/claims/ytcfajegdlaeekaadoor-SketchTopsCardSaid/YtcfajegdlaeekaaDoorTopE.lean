/-
  The program's sorted, walked.
-/
import Derived.Test.YtcfajegdlaeekaaDoorTopD
import Derived.WalkKit
namespace Go.Proofs.YtcfajegdlaeekaaDoor
open Go Go.RowKit Go.Shelf Go.Lib Go.Sort Go.Maps

set_option maxRecDepth 100000 in
set_option maxHeartbeats 4000000 in
theorem sorted_any (b n : Nat) (f : Int → Int) (w : World) (h : MapI w b n f (has_ f)) (hn : n ≤ 1000) :
    Calls Tryd.prog 10 #[.map (some b)] w fun e w' => ∃ v L, e = .returned v ∧ PRow 44 w' v L ∧ PairsOf f L ∧ L.length ≤ 1000 ∧ Gr w w' := by
  have HM := Lib.hid h
  have HB := Lib.hid h.lt
  clear h
  obtain ⟨i0, hi0, hz0, hz1, hz2⟩ := info_parts pairInfo
  go_enter Tryd.func10, Tryd.ntmps10
  go_wp2_with (first
    | (at_range; refine wpList_range_mapI (by rfl) _ (by rfl) (by rfl) HM.out ?_; intro w0 cnt0 hmr hgr hsz; have HR0 := Lib.hid hmr; have HG0 := Lib.hid hgr; clear hmr hgr hsz)
    | go_in)
  obtain ⟨r, hr⟩ : ∃ r, r = w.heap.size := ⟨_, rfl⟩
  rw [← hr] at HR0 ⊢
  have HRS := Lib.hid hr
  clear hr
  go_frame
  go_loopw [3] (fun s wr => ∃ (L : List (Int × Int)) (left : Int → Bool) (cnt : Nat), Hid (SrtAt w wr b r n f s L left cnt 44)) (fun _ wr => wr.rangeLeft b r)
  case atStart => exact ⟨[], _, _, Lib.hid ⟨HR0.out, PRow.nil _ _, fun g hg => by simp [Value.ownBlock] at hg, by rw [HRS.out]; exact Nat.le_refl _, HG0.out, by simp, fun p hp => by simp at hp, fun k hk => .inl (by simp [has_, hk])⟩⟩
  case round =>
    obtain ⟨L, left, cnt, HS⟩ := hrel
    go_wp2_with (first
      | (at_next; refine wpList_next_mapR (by rfl) _ (by rfl) (by rfl) HS.out.mp ?_ ?_)
      | go_in)
    · intro hl0
      have HL := Lib.hid hl0
      clear hl0
      go_wp2_with (first
        | (go_at_call 13; refine (sortFn HS.out.row HS.out.nod (HS.out.full HL.out) (Nat.le_trans HS.out.few (by omega))).mono ?_; rintro e w2 ⟨rfl, L2, hl2, hr2, hp2, hs2⟩; have H2 := Lib.hid (And.intro hl2 (And.intro hr2 (And.intro hp2 hs2))); clear hl2 hr2 hp2 hs2)
        | go_in)
      go_ret
      exact ⟨_, L2, rfl, H2.out.2.1, H2.out.2.2.1, by rw [H2.out.1]; exact Nat.le_trans HS.out.few hn, H2.out.2.2.2.gr HS.out.gr fun q e => (HS.out.own q e).1⟩
    · intro x w1 cnt1 hbx hlx hmr hlt hsv hsz hen
      have H1 := Lib.hid (And.intro hbx (And.intro hlx (And.intro hmr (And.intro hlt hsv))))
      clear hbx hlx hmr hlt hsv hsz
      have HX : Hid (f x ≠ 0) := Lib.hid (HS.out.come H1.out.2.1)
      have HRW := Lib.hid ((HS.out.row.sav H1.out.2.2.2.2 (fun g hg => (HS.out.own g hg).2)).gr ((Gr.refl w1).alloc (.cells #[.int .i64 x, .int .i64 (f x)] 44)))
      go_wp2_with (first
        | (at_builtin; refine wpList_append_row rfl _ _ _ (by rfl) i0 (.agg #[.int .i64 0, .int .i64 0]) 16 Tryd.underlying27 hi0 hz0 hz1 hz2 rfl ?c1 (by rfl) HRW.out ⟨w1.heap.size, 0, none⟩ 1 (by rfl) (pcells (x, f x)) (by rfl) (pnew w1 x (f x) _) (fun u hu => (pcells_int _ u hu).1) (fun u hu => (pcells_int _ u hu).2) (Nat.le_trans HS.out.few (by omega)) (by decide) ?_; (case c1 => exact zero_int); intro v2 w2 hrow hgr hown; have H2 := Lib.hid (HS.out.more H1.out.2.1 HX.out H1.out.2.2.1 H1.out.2.2.2.2 HB.out hrow hgr hown); clear hrow hgr hown)
        | go_in)
      go_roundw
      case rel => exact ⟨_, _, _, H2⟩
      case measure => rw [H2.out.mp.left_eq, HS.out.mp.left_eq]; exact H1.out.2.2.2.1
end Go.Proofs.YtcfajegdlaeekaaDoor

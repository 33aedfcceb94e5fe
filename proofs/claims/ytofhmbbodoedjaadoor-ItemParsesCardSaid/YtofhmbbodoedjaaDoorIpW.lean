/-
  millracelaw.ItemParses, walked.
-/
import Derived.Test.YtofhmbbodoedjaaDoorIpM
import Derived.BigGuardPart
namespace Go.Proofs.YtofhmbbodoedjaaDoor
open Go Go.RowKit Go.Shelf

theorem fault_new (w w' : World) (c p : Int) (g : Gr (w.alloc (.cells #[.int .i64 c, .int .i64 p] 25)) w') : w'.cell? ⟨w.heap.size, 0, none⟩ = some (.int .i64 c) ∧ w'.cell? ⟨w.heap.size, 1, none⟩ = some (.int .i64 p) :=
  ⟨g.cell (cell_of_row _ _ 0 _ _ _ (heap_alloc_new w _)), g.cell (cell_of_row _ _ 1 _ _ _ (heap_alloc_new w _))⟩
set_option maxRecDepth 100000 in
set_option maxHeartbeats 4000000 in
theorem itemParses_walk (W : World) (HE : Env W) (HFI : FineIs W) (HGL : Glob W) (t : ByteArray) : Calls Tryd.prog 3 #[.string t] W fun e W' => e = .returned (.bool true) ∧ Gr W W' := by
  have HEN := Lib.hid HE
  have HF := Lib.hid HFI
  have HL := Lib.hid HGL
  clear HE HGL HFI
  obtain ⟨n, hn⟩ : ∃ n, n = t.size := ⟨_, rfl⟩
  have HN := Lib.hid hn
  have hlen : ∀ w ty, (Builtin.len_ #[9] ty #[.string t]).run Tryd.prog w = .ok (.int .i64 (n : Int)) w := fun w ty => by rw [HN.out]; simp [go_sem, Tryd.underlying9]
  clear hn
  by_cases hbig : 30000 < n
  · have n0 : (3000 : Int) < (n : Int) := by omega
    have n1 : ¬ (n : Int) ≤ 20000 := by omega
    have n2 : (30000 : Int) < (n : Int) := by omega
    go_enter Tryd.func3, Tryd.ntmps3
    go_wp2
    go_ret
    exact ⟨rfl, Gr.refl W⟩
  have n2 : ¬ (30000 : Int) < (n : Int) := by omega
  by_cases hlim : 20000 < n
  · have HT : Hid (20000 < t.size) := Lib.hid (by rw [← HN.out]; exact hlim)
    have n0 : (3000 : Int) < (n : Int) := by omega
    have n1 : ¬ (n : Int) ≤ 20000 := by omega
    clear hbig hlim
    go_enter Tryd.func3, Tryd.ntmps3
    go_wp2_with (first
      | (go_at_call 4; refine (rparse_big t HT.out _).mono ?_; rintro E w2 ⟨rfl, hg⟩; have HG2 := Lib.hid hg; clear hg)
      | (go_at_call 5; refine (parse_big t HT.out _).mono ?_; rintro E w4 ⟨rfl, hg⟩; have HG4 := Lib.hid hg; obtain ⟨c0, c1⟩ := fault_new w2 w4 4 (-1) hg; clear hg)
      | (go_at_call 6; refine (at_yes _ (HL.out.gr ((HG2.out.alloc _).trans HG4.out)) (ErrIs.no _ 4)).mono ?_; rintro E w5 ⟨rfl, hg⟩; have HG5 := Lib.hid hg; clear hg)
      | (go_at_call 7; refine (sameItems_nil none none 0 0 _).mono ?_; rintro E w6 ⟨rfl, hg⟩; have HG6 := Lib.hid hg; clear hg))
    go_ret
    exact ⟨rfl, (HG2.out.alloc _).trans (HG4.out.trans (HG5.out.trans HG6.out))⟩
  by_cases hmid : 3000 < n
  · have n0 : (3000 : Int) < (n : Int) := by omega
    have n1 : (n : Int) ≤ 20000 := by omega
    go_enter Tryd.func3, Tryd.ntmps3
    go_wp2
    go_ret
    exact ⟨rfl, Gr.refl W⟩
  have n0 : ¬ (3000 : Int) < (n : Int) := by omega
  have n1 : (n : Int) ≤ 3000 := by omega
  have HT2 : Hid (t.size ≤ 20000) := Lib.hid (by rw [← HN.out]; omega)
  clear hbig hmid hlim
  cases hp : ipAll t with
  | err c p =>
    have HP := Lib.hid hp
    clear hp
    go_enter Tryd.func3, Tryd.ntmps3
    go_wp2_with (first
      | (go_at_call 4
         refine (rparse_any t HT2.out _ HEN.out HF.out).mono ?_
         rintro E w2 ⟨hg, hq⟩
         rw [HP.out] at hq
         simp only at hq
         subst hq
         unfold faultV
         have HG2 := Lib.hid hg
         clear hg)
      | (go_at_call 5
         refine (parse_any t HT2.out _ (HEN.out.gr (HG2.out.alloc _)) (HL.out.gr (HG2.out.alloc _))).mono ?_
         rintro E w4 ⟨hg, hq⟩
         rw [HP.out] at hq
         obtain ⟨u, rfl, ⟨tt, xx, rfl⟩, hq⟩ := hq
         have HER := Lib.hid hq
         have HG4 := Lib.hid hg
         obtain ⟨c0, c1⟩ := fault_new w2 w4 c p hg
         clear hg hq)
      | (go_at_call 6; refine (at_yes _ (HL.out.gr ((HG2.out.alloc _).trans HG4.out)) HER.out).mono ?_; rintro E w5 ⟨rfl, hg⟩; have HG5 := Lib.hid hg; clear hg)
      | (go_at_call 7; refine (sameItems_nil none none 0 0 _).mono ?_; rintro E w6 ⟨rfl, hg⟩; have HG6 := Lib.hid hg; clear hg))
    go_ret
    exact ⟨rfl, (HG2.out.alloc _).trans (HG4.out.trans (HG5.out.trans HG6.out))⟩
  | ok l =>
    have HP := Lib.hid hp
    clear hp
    go_enter Tryd.func3, Tryd.ntmps3
    go_wp2_with (first
      | (go_at_call 4
         refine (rparse_any t HT2.out _ HEN.out HF.out).mono ?_
         rintro E w2 ⟨hg, hq⟩
         rw [HP.out] at hq
         obtain ⟨v, rfl, hit⟩ := hq
         unfold faultV
         have HG2 := Lib.hid hg
         have HIV := Lib.hid hit
         clear hg hit)
      | (go_at_call 5
         refine (parse_any t HT2.out _ (HEN.out.gr (HG2.out.alloc _)) (HL.out.gr (HG2.out.alloc _))).mono ?_
         rintro E w4 ⟨hg, hq⟩
         rw [HP.out] at hq
         obtain ⟨u, rfl, hit⟩ := hq
         have HIU := Lib.hid hit
         have HG4 := Lib.hid hg
         obtain ⟨c0, c1⟩ := fault_new w2 w4 0 (-1) hg
         clear hg hit)
      | (go_at_call 6; refine (at_yes _ (HL.out.gr ((HG2.out.alloc _).trans HG4.out)) (ErrIs.nil _)).mono ?_; rintro E w5 ⟨rfl, hg⟩; have HG5 := Lib.hid hg; clear hg)
      | (go_at_call 7; refine (sameItems_any _ (HIU.out.gr HG5.out) (HIV.out.gr (((Gr.refl _).alloc _).trans (HG4.out.trans HG5.out)))).mono ?_; rintro E w6 ⟨rfl, hg⟩; have HG6 := Lib.hid hg; clear hg))
    go_ret
    exact ⟨rfl, (HG2.out.alloc _).trans (HG4.out.trans (HG5.out.trans HG6.out))⟩
end Go.Proofs.YtofhmbbodoedjaaDoor

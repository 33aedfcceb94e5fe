/-
  sameLists, walked: lists that hold the same.
-/
import Derived.Test.YtfdmmfjheiiiiaaDoorSmG
namespace Go.Proofs.YtfdmmfjheiiiiaaDoor
open Go.RowKit Go.Extern.Stop Go.Stop Go.Extern

set_option maxRecDepth 100000 in
set_option maxHeartbeats 8000000 in
theorem sameLists_nil (w : World) : Calls Tryd.prog 10 #[.slice none 0 0, .slice none 0 0] w fun e w' => e = .returned (.bool true) ∧ Gr w w' := by
  go_enter Tryd.func10, Tryd.ntmps10
  go_wp2
  go_loopw [5] (fun s wr => s = .int .i64 0 ∧ wr = w) (fun _ _ => 0)
  case atStart => exact ⟨rfl, rfl⟩
  case round =>
    obtain ⟨rfl, rfl⟩ := hrel
    go_wp2
    go_ret
    exact ⟨rfl, Gr.refl _⟩
set_option maxRecDepth 100000 in
set_option maxHeartbeats 8000000 in
theorem sameLists_any (ga gb n : Nat) (pv tv : Nat → Value) (xs : Nat → List Int) (w : World) (hn : n ≤ 1000) (hp : ∀ fi, fi < n → w.cell? ⟨ga, fi, none⟩ = some (pv fi) ∧ Ints w (pv fi) (xs fi)) (hq : ∀ fi, fi < n → w.cell? ⟨gb, fi, none⟩ = some (tv fi) ∧ Ints w (tv fi) (xs fi)) :
    Calls Tryd.prog 10 #[.slice (some ⟨ga, 0, none⟩) n n, .slice (some ⟨gb, 0, none⟩) n n] w fun e w' => e = .returned (.bool true) ∧ Gr w w' := by
  have HP := Lib.hid hp
  have HQ := Lib.hid hq
  have HN := Lib.hid hn
  have n1 : (n : Int) ≤ 1000 := by omega
  clear hp hq hn
  go_enter Tryd.func10, Tryd.ntmps10
  go_wp2
  go_loopw [5] (fun s wr => ∃ fi : Nat, fi ≤ n ∧ s = .int .i64 (fi : Int) ∧ Hid (Gr w wr)) (fun s _ => n - (intOf s).toNat)
  case atStart => exact ⟨0, Nat.zero_le _, rfl, Gr.refl w⟩
  case round =>
    obtain ⟨fi, hi, rfl, HG⟩ := hrel
    by_cases hlt : fi < n
    · have j0 : (0 : Int) ≤ (fi : Int) := by omega
      have j1 : (fi : Int) < (n : Int) := by omega
      have HA := Lib.hid (And.intro ((HP.out fi hlt).2.gr HG.out) ((HQ.out fi hlt).2.gr HG.out))
      obtain ⟨a0, q0, e0⟩ := ints_shape (HP.out fi hlt).2
      obtain ⟨a1, q1, e1⟩ := ints_shape (HQ.out fi hlt).2
      have c0 := HG.out.cell (HP.out fi hlt).1
      have c1 := HG.out.cell (HQ.out fi hlt).1
      rw [e0] at c0 HA
      rw [e1] at c1 HA
      obtain ⟨m, hm⟩ : ∃ m, m = (xs fi).length := ⟨_, rfl⟩
      rw [← hm] at c0 c1 HA
      have C0 := Lib.hid c0
      have C1 := Lib.hid c1
      clear e0 e1 hm c0 c1
      go_upto_region 6 with fail
      refine wp_region_gr (n := 8) [Fg.eq (.slice (some ⟨ga, 0, none⟩) n n), Fg.eq (.int .i64 (fi : Int)), Fg.eq (.pointer (some ⟨ga, fi, none⟩)), Fg.eq (.slice a0 m q0), Fg.eq (.slice (some ⟨gb, 0, none⟩) n n), Fg.eq (.int .i64 (fi : Int)), Fg.eq (.pointer (some ⟨gb, fi, none⟩)), Fg.eq (.slice a1 m q1)] [17, 18, 19, 20, 21, 22, 23, 24] (by kernel_rfl) (by kernel_rfl) (by kernel_rfl) ?_ ?_
      · intro L i o a w1 hi ho hA
        have hgr : Gr wr w1 := (Gr.refl wr).drew.trans hA.gr
        match i, hi with
        | 0, _ =>
          obtain rfl := Option.some.inj ho
          exact gstep_val (mk_move rfl (show a.eval (.tmp 0) = .slice (some ⟨ga, 0, none⟩) n n from hA.other 0 (by decide))) rfl
        | 1, _ =>
          obtain rfl := Option.some.inj ho
          exact gstep_val (mk_move rfl (show a.eval (.tmp 5) = .int .i64 (fi : Int) from hA.other 5 (by decide))) rfl
        | 2, _ =>
          obtain rfl := Option.some.inj ho
          exact gstep_val (mk_idxL0 rfl (hA.fact 0 (hA.dep 0 (by kernel_rfl) (by decide))) (hA.fact 1 (hA.dep 1 (by kernel_rfl) (by decide))) hlt) rfl
        | 3, _ =>
          obtain rfl := Option.some.inj ho
          exact gstep_val (mk_loadS rfl (hA.fact 2 (hA.dep 2 (by kernel_rfl) (by decide))) (hgr.cell C0.out)) rfl
        | 4, _ =>
          obtain rfl := Option.some.inj ho
          exact gstep_val (mk_move rfl (show a.eval (.tmp 1) = .slice (some ⟨gb, 0, none⟩) n n from hA.other 1 (by decide))) rfl
        | 5, _ =>
          obtain rfl := Option.some.inj ho
          exact gstep_val (mk_move rfl (show a.eval (.tmp 5) = .int .i64 (fi : Int) from hA.other 5 (by decide))) rfl
        | 6, _ =>
          obtain rfl := Option.some.inj ho
          exact gstep_val (mk_idxL0 rfl (hA.fact 4 (hA.dep 4 (by kernel_rfl) (by decide))) (hA.fact 5 (hA.dep 5 (by kernel_rfl) (by decide))) hlt) rfl
        | 7, _ =>
          obtain rfl := Option.some.inj ho
          exact gstep_val (mk_loadS rfl (hA.fact 6 (hA.dep 6 (by kernel_rfl) (by decide))) (hgr.cell C1.out)) rfl
      · intro vs w5 hg5' hv
        have HGX := Lib.hid ((Gr.refl wr).drew.trans hg5')
        have v3 : vs 3 = .slice a0 m q0 := hv 3 (by omega)
        have v7 : vs 7 = .slice a1 m q1 := hv 7 (by omega)
        clear hv hg5'
        simp only [putN, List.drop_succ_cons, List.drop_zero, List.getElem?_cons_succ, List.getElem?_cons_zero]
        generalize vs 3 = z3 at *
        generalize vs 7 = z7 at *
        subst v3
        subst v7
        have HA5 := Lib.hid (And.intro (HA.out.1.gr HGX.out) (HA.out.2.gr HGX.out))
        go_wp2_with (go_at_call 9; refine (sameInts_any _ HA5.out.1 HA5.out.2).mono ?_; rintro e w3 ⟨rfl, hg3⟩; have HG3 := Lib.hid ((HG.out.trans HGX.out).trans hg3); clear hg3)
        go_roundw
        case measure => simp [intOf]; omega
        case rel => exact ⟨fi + 1, by omega, by go_num, HG3⟩
    · obtain rfl : n = fi := by omega
      have j1 : ¬ (n : Int) < (n : Int) := by omega
      go_wp2
      go_ret
      exact ⟨rfl, HG.out⟩
end Go.Proofs.YtfdmmfjheiiiiaaDoor

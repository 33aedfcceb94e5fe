/-
  The law ItemChecks: its walk.
-/
import Derived.Test.YtamofadbcgeokaaDoorItemB
import Derived.Deep.RegionHeld3
namespace Go.Proofs.YtamofadbcgeokaaDoor
open Go.RowKit Go.Extern.Stop Go.Stop Go.Extern

theorem at_yes {v : Value} {n p : Int} (w : World) (hg : Glob w) (h : ErrIs w v n p) :
    Calls Tryd.prog 22 #[v, .agg #[.int .i64 n, .int .i64 p]] w fun e w' => e = .returned (.bool true) ∧ Gr w w' := by
  have := law_at n p w hg h
  simpa using this
theorem bare_true {v : Value} {n : Int} (w : World) (hg : Glob w) (h : ErrIs w v n (-1)) :
    Calls Tryd.prog 14 #[v, .int .i64 n] w fun e w' => e = .returned (.bool true) ∧ Gr w w' := by
  have := law_bare n w hg h
  simpa using this

set_option maxRecDepth 100000 in
set_option maxHeartbeats 4000000 in
theorem itemChecks_slice {l : List Itm} (b off cap n : Nat) (w : World) (h0 : 0 < n) (hm : n ≤ 150) (hx : Hid (∀ i, i < n → ItemAt w b (off + i * 5) (l.getD i .zero))) (hv : Items w (.slice (some ⟨b, off, none⟩) n cap) l) (hg : Glob w) (hf : FineIs w) :
    Calls Tryd.prog 5 #[.slice (some ⟨b, off, none⟩) n cap] w fun e w' => e = .returned (.bool true) ∧ Gr w w' := by
  have HGl := Lib.hid hg
  have HF := Lib.hid hf
  have HV := Lib.hid hv
  clear hg hf hv
  go_enter Tryd.func5, Tryd.ntmps5
  go_wp2
  go_loopw [2, 3] (fun r i wr => r = .bool false ∧ ∃ k : Nat, k ≤ n ∧ i = .int .i64 k ∧ Hid (Gr w wr)) (fun _ i _ => n - (intOf i).toNat)
  case atStart => exact ⟨rfl, 0, Nat.zero_le _, rfl, Gr.refl _⟩
  case round =>
    obtain ⟨rfl, k, hk, rfl, HG⟩ := hrel
    by_cases hlt : k < n
    · have hcells := hx.out k hlt
      generalize l.getD k .zero = x at hcells
      obtain ⟨t, len, flow, band, mark⟩ := x
      have HCELL := Lib.hid hcells
      have i0 : (0 : Int) ≤ (k : Int) := by omega
      have i1 : (k : Int) < (n : Int) := by omega
      have HC1 := Lib.hid (fun W => icheck_any ⟨t, len, flow, band, mark⟩ W)
      have HC2 := Lib.hid (fun W => richeck_any ⟨t, len, flow, band, mark⟩ W)
      have HE := Lib.hid (fun W => errV_is W (ckItem ⟨t, len, flow, band, mark⟩))
      generalize ckItem ⟨t, len, flow, band, mark⟩ = c at *
      have c0 := HG.out.cell hcells.c0
      have c1 := HG.out.cell hcells.c1
      have c2 := HG.out.cell hcells.c2
      have c3 := HG.out.cell hcells.c3
      have c4 := HG.out.cell hcells.c4
      clear hcells
      go_wp2_with fail
      go_region_held3 (fun w' => w'.cell? ⟨b, off + k * 5, none⟩ = some (.int .i64 t) ∧ w'.cell? ⟨b, off + k * 5 + 1, none⟩ = some (.int .i64 len) ∧ w'.cell? ⟨b, off + k * 5 + 2, none⟩ = some (.int .i64 flow) ∧ w'.cell? ⟨b, off + k * 5 + 3, none⟩ = some (.int .i64 band) ∧ w'.cell? ⟨b, off + k * 5 + 4, none⟩ = some (.int .i64 mark))
        (first
          | go_keep
          | exact ⟨HG1.out.cell HCELL.out.c0, HG1.out.cell HCELL.out.c1, HG1.out.cell HCELL.out.c2, HG1.out.cell HCELL.out.c3, HG1.out.cell HCELL.out.c4⟩)
        (first
          | (go_at_call 20; refine (HC1.out _).mono ?_; rintro e w1 ⟨rfl, hg1⟩; have HG1 : Hid (Gr w w1) := (by first | exact HG1.out.trans hg1 | exact HG.out.drew.trans hg1); clear hg1)
          | (go_at_call 21; refine (HC2.out _).mono ?_; rintro e w1 ⟨rfl, hg1⟩; have HG1 : Hid (Gr w w1) := (by first | exact HG1.out.trans hg1 | exact HG.out.drew.trans hg1); clear hg1)
          | (go_at_call 14; refine (bare_true _ (HGl.out.gr HG1.out) (HE.out _)).mono ?_; rintro e w1 ⟨rfl, hg1⟩; have HG1 : Hid (Gr w w1) := HG1.out.trans hg1; clear hg1))
      all_goals
        go_wp2
        go_roundw
        case rel => exact ⟨rfl, k + 1, by omega, by go_num, HG1⟩
        case measure => simp [intOf]; omega
    · have HL1 := Lib.hid (fun W (h : Gr w W) => ilist_any W (HV.out.gr h) (HGl.out.gr h))
      have HL2 := Lib.hid (fun W (h : Gr w W) => rlist_any W (HV.out.gr h) (HF.out.gr h))
      generalize hc : listCode l = c at *
      generalize hp : listPlace l = p at *
      obtain rfl : k = n := by omega
      go_wp2_with (first
        | (go_at_call 23; refine (HL1.out _ HG.out).mono ?_; rintro e w1 ⟨v1, rfl, he, _, _, hg1⟩; rw [hc, hp] at he; have HE := Lib.hid he; have HG1 : Hid (Gr w w1) := HG.out.trans hg1; clear hg1 he)
        | (go_at_call 24; refine (HL2.out _ HG1.out).mono ?_; rintro e w2 ⟨rfl, hg2⟩; rw [hc, hp]; unfold faultV; have HE2 := Lib.hid (HE.out.gr hg2); have HG2 : Hid (Gr w w2) := HG1.out.trans hg2; clear hg2)
        | (go_at_call 22; refine (at_yes _ (HGl.out.gr HG2.out) HE2.out).mono ?_; rintro e w3 ⟨rfl, hg3⟩; have HG3 : Hid (Gr w w3) := HG2.out.trans hg3; clear hg3))
      go_ret
      exact ⟨rfl, HG3.out⟩
theorem itemChecks_nil (a : Option Addr) (cap : Nat) (w : World) (hg : Glob w) (hf : FineIs w) :
    Calls Tryd.prog 5 #[.slice a 0 cap] w fun e w' => e = .returned (.bool true) ∧ Gr w w' := by
  have HGl := Lib.hid hg
  have HF := Lib.hid hf
  clear hg hf
  have HL1 := Lib.hid (fun W => ilist_nil a cap W)
  have HL2 := Lib.hid (fun W (h : FineIs W) => rlist_nil a cap W h)
  generalize hc : listCode [] = c at *
  generalize hp : listPlace [] = p at *
  go_enter Tryd.func5, Tryd.ntmps5
  go_wp2
  refine wp_loop_rounds 1 ?_
  rw [rounds_succ]
  go_wp2_with (first
    | (go_at_call 23; refine (HL1.out _).mono ?_; rintro e w1 ⟨v1, rfl, he, _, _, hg1⟩; rw [hc, hp] at he; have HE := Lib.hid he; have HG1 : Hid (Gr w w1) := hg1; clear hg1 he)
    | (go_at_call 24; refine (HL2.out _ (HF.out.gr HG1.out)).mono ?_; rintro e w2 ⟨rfl, hg2⟩; rw [hc, hp]; unfold faultV; have HE2 := Lib.hid (HE.out.gr hg2); have HG2 : Hid (Gr w w2) := HG1.out.trans hg2; clear hg2)
    | (go_at_call 22; refine (at_yes _ (HGl.out.gr HG2.out) HE2.out).mono ?_; rintro e w3 ⟨rfl, hg3⟩; have HG3 : Hid (Gr w w3) := HG2.out.trans hg3; clear hg3))
  go_ret
  exact ⟨rfl, HG3.out⟩
theorem itemChecks_walk {v : Value} {l : List Itm} (w : World) (hg : Glob w) (hf : FineIs w) (hx : Items w v l) {P : Prop} (_ : P) :
    Calls Tryd.prog 5 #[v] w fun e w' => e = .returned (.bool true) ∧ Gr w w' := by
  have hlen := hx.len
  by_cases h150 : 150 < l.length
  · obtain ⟨a, cap, rfl⟩ := items_shape hx
    generalize l.length = n at *
    clear hx
    go_enter Tryd.func5, Tryd.ntmps5
    go_wp2
    go_ret
    exact ⟨rfl, Gr.refl _⟩
  · rcases Nat.eq_zero_or_pos l.length with h0 | h0
    · obtain ⟨a, cap, rfl⟩ := items_shape hx
      obtain rfl := List.length_eq_zero_iff.1 h0
      exact itemChecks_nil a cap w hg hf
    · have hxx := hx
      obtain ⟨b, off, cap, rfl, _, _, CX⟩ := items_cells hx h0
      exact itemChecks_slice b off cap _ w h0 (by omega) CX hxx hg hf
end Go.Proofs.YtamofadbcgeokaaDoor

/-
  millraceref.Line.
-/
import Derived.Test.YtlaoapdgkkgmhaaDoorTakes
import Derived.Test.YtlaoapdgkkgmhaaDoorLineA
import Derived.Test.YtlaoapdgkkgmhaaDoorSame
namespace Go.Proofs.YtlaoapdgkkgmhaaDoor
open Go.RowKit Go.Extern.Stop Go.Stop Go.Extern

/-- A line at a tick. -/
def lineAt (b t room wait k : Nat) : Int := (((k - wait : Nat) : Int) * (b : Int)) / (t : Int) + (if k = 0 then 0 else (room : Int))
theorem OwnInts.gr {w w' : World} {base : Nat} {v : Value} {xs : List Int} (h : OwnInts w base v xs) (k : Gr w w') : OwnInts w' base v xs := by
  obtain ⟨h1, h2⟩ := h
  refine ⟨h1, ?_⟩
  rcases h2 with h2 | ⟨g, cap, cur, hv, hb, hh, hr⟩
  · exact .inl h2
  · refine .inr ⟨g, cap, cur, hv, hb, ?_, hr⟩
    rw [k.block ?_]
    · exact hh
    · rcases Nat.lt_or_ge g w.heap.size with h3 | h3
      · exact h3
      · simp [Array.getElem?_eq_none h3] at hh
theorem lineAt_in {b t wait k : Nat} (hb : b ≤ 1000000) (hk : k ≤ 201) : (0 ≤ (((k - wait : Nat) : Int) * (b : Int)) / (t : Int) ∧ (((k - wait : Nat) : Int) * (b : Int)) / (t : Int) ≤ 1000000000) := by
  have h1 : (k - wait) * b ≤ 201 * 1000000 := Nat.mul_le_mul (by omega) hb
  have h2 : (k - wait) * b / t ≤ (k - wait) * b := Nat.div_le_self _ _
  rw [← Int.natCast_mul, ← Int.natCast_ediv]
  generalize (k - wait) * b / t = z at *
  generalize (k - wait) * b = y at *
  omega

set_option maxRecDepth 100000 in
set_option maxHeartbeats 8000000 in
theorem rline_any (b t room wait q : Nat) (w : World) (hb : 1 ≤ b ∧ b ≤ 1000000) (ht : 1 ≤ t ∧ t ≤ 1000000) (hr : room ≤ 1000000) (hw : wait ≤ 1000000) (hq : q ≤ 200) :
    Calls Tryd.prog 11 #[.agg #[.int .i64 (b : Int), .int .i64 (t : Int)], .int .i64 (room : Int), .int .i64 (wait : Int), .int .i64 (q : Int)] w fun e w' => ∃ r, e = .returned r ∧ Ints w' r (upTo (lineAt b t room wait) (q + 1)) ∧ Gr w w' := by
  have HB := Lib.hid hb
  have HT := Lib.hid ht
  have HG0 := Lib.hid ((Gr.refl w).alloc (.cells #[.int .i64 (b : Int), .int .i64 (t : Int)] 23))
  have hc0 : (w.alloc (.cells #[.int .i64 (b : Int), .int .i64 (t : Int)] 23)).cell? ⟨w.heap.size, 0, none⟩ = some (.int .i64 (b : Int)) := by simp
  have hc1 : (w.alloc (.cells #[.int .i64 (b : Int), .int .i64 (t : Int)] 23)).cell? ⟨w.heap.size, 1, none⟩ = some (.int .i64 (t : Int)) := by simp
  have C0 := Lib.hid hc0
  have C1 := Lib.hid hc1
  have HSZ : Hid ((w.alloc (.cells #[.int .i64 (b : Int), .int .i64 (t : Int)] 23)).heap.size = w.heap.size + 1) := Lib.hid (by simp)
  clear hb ht hc0 hc1
  go_enter Tryd.func11, Tryd.ntmps11
  go_wp2
  generalize w.alloc (.cells #[.int .i64 (b : Int), .int .i64 (t : Int)] 23) = w0 at *
  go_loopw [9, 10, 11] (fun r i x wr => ∃ k : Nat, k ≤ q + 1 ∧ i = .int .i64 k ∧ Hid (OwnInts wr w0.heap.size r (upTo (lineAt b t room wait) k)) ∧ Hid (Gr w0 wr)) (fun _ i _ _ => (q + 1) - (intOf i).toNat)
  case atStart => exact ⟨0, Nat.zero_le _, rfl, OwnInts.nil _ _, Gr.refl _⟩
  case round =>
    obtain ⟨k, hk, rfl, HO, HG⟩ := hrel
    by_cases hlt : k ≤ q
    · have d0 := HG.out.cell C0.out
      have d1 := HG.out.cell C1.out
      have D0 := Lib.hid d0
      have D1 := Lib.hid d1
      have i1 : (k : Int) ≤ (q : Int) := by omega
      have i0 : (0 : Int) ≤ (k : Int) := by omega
      have HM : Hid ((if 0 < IntKind.i64.wrap ((k : Int) - (wait : Int)) then IntKind.i64.wrap ((k : Int) - (wait : Int)) else 0) = ((k - wait : Nat) : Int)) := Lib.hid (by
        rw [IntKind.wrap_i64]
        split <;> omega)
      have hm1 : (k - wait) * b ≤ 201 * 1000000 := Nat.mul_le_mul (by omega) HB.out.2
      have HP : Hid (ProdOk ((k - wait : Nat) : Int) (b : Int) 1 t) := Lib.hid ⟨by omega, by have := HB.out; omega, by omega, by have := HT.out; omega, by rw [Int.natAbs_natCast, Int.natAbs_natCast]; omega, by have := HT.out; omega⟩
      have HDN := Lib.hid (fun (p : Nat) (u : World) (h : RatV u p (((k - wait : Nat) : Int) * (b : Int)) (1 * t)) => down_any p _ _ u h (by rw [← Int.natCast_mul, Int.natAbs_natCast]; omega) (by have := HT.out; omega))
      rw [Nat.one_mul] at HDN
      have HIN := Lib.hid (fun (u : World) => refInt_any ((k - wait : Nat) : Int) u (by omega))
      have hla := lineAt_in (t := t) (wait := wait) (k := k) HB.out.2 (by omega)
      have HLA : Hid (lineAt b t room wait k = (((k - wait : Nat) : Int) * (b : Int)) / (t : Int) + (if k = 0 then 0 else (room : Int))) := Lib.hid rfl
      have HUS := Lib.hid (upTo_succ (lineAt b t room wait) k)
      clear hm1
      generalize (((k - wait : Nat) : Int) * (b : Int)) / (t : Int) = z at *
      go_wp2
      go_region_with (first
        | (go_at_call 20; rw [HM.out]; refine (HIN.out _).mono ?_; rintro e wi ⟨p1, rfl, _, hr1, hg1⟩; have f0 := hg1.cell D0.out; have f1 := hg1.cell D1.out; have HI := Lib.hid hr1; have HGI := Lib.hid hg1; clear hr1 hg1)
        | (go_at_call 21; refine (speed_any b t _ HB.out.2 ⟨HT.out.1, HT.out.2⟩).mono ?_; rintro e ws ⟨p2, rfl, _, hr2, hg2⟩; have HS := Lib.hid hr2; have HGS := Lib.hid hg2; clear hr2 hg2)
        | (go_at_call 23; refine (refmul_any p1 p2 ((k - wait : Nat) : Int) (b : Int) 1 t _ (by first | exact HI.out.gr HGS.out | exact HI.out) (by first | exact HS.out | exact HS.out.gr HGI.out) HP.out).mono ?_; rintro e wd ⟨p3, rfl, _, hr3, hg3⟩; rw [Nat.one_mul] at hr3; have HD := Lib.hid hr3; have HGD := Lib.hid hg3; clear hr3 hg3)
        | (go_at_call 22; refine (HDN.out p3 _ HD.out).mono ?_; rintro e wu ⟨rfl, hg4⟩; have HGU := Lib.hid hg4; clear hg4))
      all_goals
        have HGW : Hid (Gr wr wu) := Lib.hid (by first | exact ((((Gr.refl wr).drew.trans HGI.out).trans HGS.out).trans HGD.out).trans HGU.out | exact ((((Gr.refl wr).drew.trans HGS.out).trans HGI.out).trans HGD.out).trans HGU.out)
        have HOW := Lib.hid (HO.out.gr HGW.out)
        have HG1 := Lib.hid (HG.out.trans HGW.out)
        clear HGI HGS HGD HGU
        by_cases hk0 : k = 0
        · subst hk0
          have HL : Hid (lineAt b t room wait 0 = z) := Lib.hid (by rw [HLA.out]; simp)
          clear HLA
          go_wp2_with (at_builtin; refine wpList_append_int (by rfl) _ _ _ (by rfl) (by kernel_rfl) w0.heap.size _ (upTo (lineAt b t room wait) 0) z (by rfl) (HOW.out.alloc _) ⟨wu.heap.size, 0, none⟩ 1 (by rfl) (by simp) (by rw [upTo_len]; omega) (by have := HG1.out.size; simp; omega) ?_; intro r' w1 hown1 hwr1; have HG2 := Lib.hid (hwr1 w0 (HG1.out.alloc _) (Nat.le_refl _)); have HO1 := Lib.hid hown1; clear hown1 hwr1)
          go_roundw
          case rel => exact ⟨0 + 1, by omega, by go_num, by rw [← HUS.out, HL.out]; exact HO1, HG2⟩
          case measure => simp [intOf] <;> omega
        · have hk1 : (0 : Int) < (k : Int) := by omega
          have HL : Hid (lineAt b t room wait k = z + (room : Int)) := Lib.hid (by rw [HLA.out, if_neg hk0])
          clear HLA
          go_wp2_with (at_builtin; refine wpList_append_int (by rfl) _ _ _ (by rfl) (by kernel_rfl) w0.heap.size _ (upTo (lineAt b t room wait) k) (z + (room : Int)) (by rfl) (HOW.out.alloc _) ⟨wu.heap.size, 0, none⟩ 1 (by rfl) (by simp) (by rw [upTo_len]; omega) (by have := HG1.out.size; simp; omega) ?_; intro r' w1 hown1 hwr1; have HG2 := Lib.hid (hwr1 w0 (HG1.out.alloc _) (Nat.le_refl _)); have HO1 := Lib.hid hown1; clear hown1 hwr1)
          go_roundw
          case rel => exact ⟨k + 1, by omega, by go_num, by rw [← HUS.out, HL.out]; exact HO1, HG2⟩
          case measure => simp [intOf] <;> omega
    · obtain rfl : k = q + 1 := by omega
      have hne : ¬ ((q + 1 : Nat) : Int) ≤ (q : Int) := by omega
      go_wp2
      go_ret
      exact ⟨_, rfl, HO.out.ints (by rw [upTo_len]; omega), HG0.out.trans HG.out⟩
end Go.Proofs.YtlaoapdgkkgmhaaDoor

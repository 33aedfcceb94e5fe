/-
  A line of the journal: the reference's JournalLine. (Printed by genbokv.py.)
-/
import Derived.Test.YticifnegoacopaaGreatDoorBokU
import Derived.Test.YticifnegoacopaaGreatDoorReg
namespace Go.Proofs.YticifnegoacopaaGreatDoor
open Go Go.RowKit

section
variable {ev : Operand → Value} {o : Oper} {w : World} {x y z : Operand} {u : Value}
theorem s_move (ho : o.op = .move x) (h : ev x = u) : (execOp ev o).run Tryz.prog w = .ok (.value u) w := by simp [execOp, ho, h, go_sem]
theorem s_nil {ad : Addr} (ho : o.op = .nilCheck x) (h : ev x = .pointer (some ad)) : (execOp ev o).run Tryz.prog w = .ok (.value (.pointer (some ad))) w := by simp [execOp, ho, h, go_sem]
theorem s_cat {a b : ByteArray} (ho : o.op = .binOp .add 9 x y 9) (h : ev x = .string a) (k : ev y = .string b) (hl : a.size + b.size ≤ 9223372036854775807) : (execOp ev o).run Tryz.prog w = .ok (.value (.string (a ++ b))) w := by
  have h1 : ¬ 9223372036854775807 < a.size + b.size := by omega
  simp [execOp, ho, h, k, h1, go_sem]
theorem s_buildI {z : Int} (ho : o.op = .buildSlice 23 1 #[(0, y)]) (h : ev y = .int .i64 z) : (execOp ev o).run Tryz.prog w = .ok (.value (.slice (some ⟨w.heap.size, 0, none⟩) 1 1)) (w.alloc (.cells #[.int .i64 z] 3)) := by simp [execOp, ho, h, go_sem]
theorem s_told {v : Value} (ho : o.op = .call { callee := .value (.func 44), args := #[x], argTypes := #[23] }) (hf : ev (.func 44) = .func (.func 44) #[] #[]) (h : ev x = v) : (execOp ev o).run Tryz.prog w = .ok (.enter 44 #[v]) w := by
  simp [execOp, ho, hf, h, resolve, invoke, go_sem]
theorem s_fe0 {p : Nat} (ho : o.op = .fieldAddr 61 x 0) (h : ev x = .pointer (some ⟨p, 0, none⟩)) : (execOp ev o).run Tryz.prog w = .ok (.value (.pointer (some ⟨p, 0, none⟩))) w := by simp [execOp, ho, h, go_sem]
theorem s_fe1 {p : Nat} (ho : o.op = .fieldAddr 61 x 1) (h : ev x = .pointer (some ⟨p, 0, none⟩)) : (execOp ev o).run Tryz.prog w = .ok (.value (.pointer (some ⟨p, 1, none⟩))) w := by simp [execOp, ho, h, go_sem]
theorem s_loadT {ad : Addr} {s : ByteArray} (ho : o.op = .load 9 x) (h : ev x = .pointer (some ad)) (hc : w.cell? ad = some (.string s)) : (execOp ev o).run Tryz.prog w = .ok (.value (.string s)) w := by simp [execOp, ho, h, hc, go_sem]
theorem s_loadN {ad : Addr} {z : Int} (ho : o.op = .load 3 x) (h : ev x = .pointer (some ad)) (hc : w.cell? ad = some (.int .i64 z)) : (execOp ev o).run Tryz.prog w = .ok (.value (.int .i64 z)) w := by simp [execOp, ho, h, hc, go_sem]
end
def Fg.newI (n : Nat) (y : Int) : Fg := ⟨fun u w => ∃ g, u = .slice (some ⟨g, 0, none⟩) 1 1 ∧ n ≤ g ∧ w.cell? ⟨g, 0, none⟩ = some (.int .i64 y), fun _ _ _ ⟨g, h1, h2, h3⟩ k => ⟨g, h1, h2, k.cell h3⟩⟩

set_option maxRecDepth 100000 in
set_option maxHeartbeats 4000000 in
/-- The reference's JournalLine. -/
theorem rline_any (k n : Int) (s : ByteArray) (hk : Bd k) (hn : Bd n) (hs : s.size ≤ 3000) (w : World) (ht : Tab w) : Calls Tryz.prog 26 #[.int .i64 k, .agg #[.string s, .int .i64 n]] w fun e w' => e = .returned (.string (jline k (s, n))) ∧ Gr w w' := by
  have HT := Lib.hid ht
  have HA1 : Hid (∀ g off c u, u.cell? ⟨g, off, none⟩ = some (.int .i64 k) → Tab u → Calls Tryz.prog 44 #[.slice (some ⟨g, off, none⟩) 1 c] u fun e w' => e = .returned (.string (txt k)) ∧ Gr u w') := Lib.hid (fun g off c u hc h => told_one k g off c u hc hk h)
  have HA2 : Hid (∀ g off c u, u.cell? ⟨g, off, none⟩ = some (.int .i64 n) → Tab u → Calls Tryz.prog 44 #[.slice (some ⟨g, off, none⟩) 1 c] u fun e w' => e = .returned (.string (txt n)) ∧ Gr u w') := Lib.hid (fun g off c u hc h => told_one n g off c u hc hn h)
  have z1 := txt_size hk
  have z2 := txt_size hn
  have HS1 : Hid (body k (s, n) = txt k ++ kSp ++ s ++ kSp ++ txt n) := Lib.hid rfl
  have HJ : Hid (jline k (s, n) = body k (s, n) ++ kSp ++ txt (chkTo (body k (s, n)) (body k (s, n)).size) ++ kNl) := Lib.hid rfl
  generalize txt k = T1 at *
  generalize txt n = T2 at *
  generalize body k (s, n) = B at *
  have HL : Hid (B.size ≤ 4000) := Lib.hid (by
    have e3 : kSp.size = 1 := rfl
    rw [HS1.out, ByteArray.size_append, ByteArray.size_append, ByteArray.size_append, ByteArray.size_append, e3]
    omega)
  have hb : B = T1 ++ ⟨#[32]⟩ ++ s ++ ⟨#[32]⟩ ++ T2 := HS1.out
  have HB := Lib.hid hb.symm
  have HZ := Lib.hid (And.intro z1 (And.intro z2 hs))
  clear HS1 hb z1 z2 hk hn ht hs
  go_enter Tryz.func26, Tryz.ntmps26
  go_upto_region 1 with fail
  obtain ⟨b, hb⟩ : ∃ b, b = w.heap.size := ⟨_, rfl⟩
  have HG0 : Hid (Gr w (w.alloc (.cells #[.string s, .int .i64 n] 61))) := Lib.hid ((Gr.refl w).alloc _)
  have c0 : (w.alloc (.cells #[.string s, .int .i64 n] 61)).cell? ⟨b, 0, none⟩ = some (.string s) := by rw [hb]; simp
  have c1 : (w.alloc (.cells #[.string s, .int .i64 n] 61)).cell? ⟨b, 1, none⟩ = some (.int .i64 n) := by rw [hb]; simp
  have HC := Lib.hid (And.intro c0 c1)
  clear c0 c1
  rw [← hb]
  have HTB := Lib.hid (HT.out.gr HG0.out)
  obtain ⟨w1, hw1⟩ : ∃ w1, w1 = w.alloc (.cells #[.string s, .int .i64 n] 61) := ⟨_, rfl⟩
  rw [← hw1] at HG0 HC HTB ⊢
  clear hb hw1
  refine wp_region_gr (n := 13) [Fg.eq (.int .i64 k), Fg.newI 0 k, Fg.eq (.string T1), Fg.eq (.string (T1 ++ ⟨#[32]⟩)), Fg.eq (.pointer (some ⟨b, 0, none⟩)), Fg.eq (.string s), Fg.eq (.string (T1 ++ ⟨#[32]⟩ ++ s)), Fg.eq (.string (T1 ++ ⟨#[32]⟩ ++ s ++ ⟨#[32]⟩)), Fg.eq (.pointer (some ⟨b, 1, none⟩)), Fg.eq (.int .i64 n), Fg.newI 0 n, Fg.eq (.string T2), Fg.eq (.string (T1 ++ ⟨#[32]⟩ ++ s ++ ⟨#[32]⟩ ++ T2))] [8, 9, 10, 11, 12, 13, 14, 15, 16, 17, 18, 19, 20] (by kernel_rfl) (by kernel_rfl) (by kernel_rfl) ?_ ?_
  · intro L i' o' ac w1' hi' ho hA
    have hgr : Gr w1 w1' := (Gr.refl w1).drew.trans hA.gr
    match i', hi' with
    | 0, _ =>
      obtain rfl := Option.some.inj ho
      exact gstep_val (s_move rfl (show ac.eval (.tmp 0) = .int .i64 k from hA.other 0 (by decide))) rfl
    | 1, _ =>
      obtain rfl := Option.some.inj ho
      exact gstep_new (s_buildI rfl (hA.fact 0 (hA.dep 0 (by kernel_rfl) (by decide)))) ((Gr.refl _).alloc _) ⟨_, rfl, Nat.zero_le _, by simp⟩
    | 2, _ =>
      obtain rfl := Option.some.inj ho
      obtain ⟨gz, hz1, _, hz2⟩ := (hA.fact 1 (hA.dep 1 (by kernel_rfl) (by decide)))
      exact gstep_call (s_told rfl rfl hz1) ((HA1.out gz 0 1 _ hz2 (HTB.out.gr hgr)).mono (fun e w2 ⟨h1, h2⟩ => ⟨_, h1, h2, rfl⟩))
    | 3, _ =>
      obtain rfl := Option.some.inj ho
      exact gstep_val (s_cat rfl (hA.fact 2 (hA.dep 2 (by kernel_rfl) (by decide))) rfl (by have z := HZ.out; simp only [ByteArray.size_append, show (⟨#[32]⟩ : ByteArray).size = 1 from rfl]; omega)) rfl
    | 4, _ =>
      obtain rfl := Option.some.inj ho
      exact gstep_val (s_fe0 rfl (show ac.eval (.tmp 3) = .pointer (some ⟨b, 0, none⟩) from hA.other 3 (by decide))) rfl
    | 5, _ =>
      obtain rfl := Option.some.inj ho
      exact gstep_val (s_loadT rfl (hA.fact 4 (hA.dep 4 (by kernel_rfl) (by decide))) (hgr.cell HC.out.1)) rfl
    | 6, _ =>
      obtain rfl := Option.some.inj ho
      exact gstep_val (s_cat rfl (hA.fact 3 (hA.dep 3 (by kernel_rfl) (by decide))) (hA.fact 5 (hA.dep 5 (by kernel_rfl) (by decide))) (by have z := HZ.out; simp only [ByteArray.size_append, show (⟨#[32]⟩ : ByteArray).size = 1 from rfl]; omega)) rfl
    | 7, _ =>
      obtain rfl := Option.some.inj ho
      exact gstep_val (s_cat rfl (hA.fact 6 (hA.dep 6 (by kernel_rfl) (by decide))) rfl (by have z := HZ.out; simp only [ByteArray.size_append, show (⟨#[32]⟩ : ByteArray).size = 1 from rfl]; omega)) rfl
    | 8, _ =>
      obtain rfl := Option.some.inj ho
      exact gstep_val (s_fe1 rfl (show ac.eval (.tmp 3) = .pointer (some ⟨b, 0, none⟩) from hA.other 3 (by decide))) rfl
    | 9, _ =>
      obtain rfl := Option.some.inj ho
      exact gstep_val (s_loadN rfl (hA.fact 8 (hA.dep 8 (by kernel_rfl) (by decide))) (hgr.cell HC.out.2)) rfl
    | 10, _ =>
      obtain rfl := Option.some.inj ho
      exact gstep_new (s_buildI rfl (hA.fact 9 (hA.dep 9 (by kernel_rfl) (by decide)))) ((Gr.refl _).alloc _) ⟨_, rfl, Nat.zero_le _, by simp⟩
    | 11, _ =>
      obtain rfl := Option.some.inj ho
      obtain ⟨gz, hz1, _, hz2⟩ := (hA.fact 10 (hA.dep 10 (by kernel_rfl) (by decide)))
      exact gstep_call (s_told rfl rfl hz1) ((HA2.out gz 0 1 _ hz2 (HTB.out.gr hgr)).mono (fun e w2 ⟨h1, h2⟩ => ⟨_, h1, h2, rfl⟩))
    | 12, _ =>
      obtain rfl := Option.some.inj ho
      exact gstep_val (s_cat rfl (hA.fact 7 (hA.dep 7 (by kernel_rfl) (by decide))) (hA.fact 11 (hA.dep 11 (by kernel_rfl) (by decide))) (by have z := HZ.out; simp only [ByteArray.size_append, show (⟨#[32]⟩ : ByteArray).size = 1 from rfl]; omega)) rfl
    | k' + 13, hk' => exact absurd (show k' + 13 < 13 from hk') (by omega)
  · intro vs5 w5 hg5 hv
    have HG5 := Lib.hid (HG0.out.trans ((Gr.refl w1).drew.trans hg5))
    have vz : vs5 12 = .string (T1 ++ ⟨#[32]⟩ ++ s ++ ⟨#[32]⟩ ++ T2) := hv 12 (by omega)
    rw [HB.out] at vz
    clear hv hg5
    simp only [putN, List.drop_succ_cons, List.drop_zero, List.getElem?_cons_succ, List.getElem?_cons_zero, vz]
    clear vz HB HA1 HA2 HZ HC HTB HG0
    generalize vs5 0 = z0
    generalize vs5 1 = z1
    generalize vs5 2 = z2
    generalize vs5 3 = z3
    generalize vs5 4 = z4
    generalize vs5 5 = z5
    generalize vs5 6 = z6
    generalize vs5 7 = z7
    generalize vs5 8 = z8
    generalize vs5 9 = z9
    generalize vs5 10 = z10
    generalize vs5 11 = z11
    have hl := HL.out
    obtain ⟨m, hm⟩ : ∃ m, m = B.size := ⟨_, rfl⟩
    rw [← hm] at hl HJ
    have HM := Lib.hid hm
    have m0 : (0 : Int) ≤ (m : Int) := by omega
    clear hm
    go_wp2
    go_loopw [6, 7] (fun s6 s7 wr => ∃ i : Nat, i ≤ m ∧ s7 = .int .i64 (i : Int) ∧ s6 = .int .i64 (chkTo B i) ∧ Hid (Gr w wr)) (fun _ s _ => m - (intOf s).toNat)
    case atStart => exact ⟨0, Nat.zero_le _, rfl, rfl, HG5⟩
    case round =>
      obtain ⟨i, hi, rfl, rfl, HG⟩ := hrel
      have hm2 : (m : Int) = (B.size : Int) := by rw [HM.out]
      by_cases hlt : i < m
      · have hidx := run_byte (t := B) (i := i) (by rw [← HM.out]; exact hlt) wr
        have hcb := byte_bd (B.data.toList.getD i 0)
        have hkb := chkTo_bd B i
        have HN2 := Lib.hid (chk_next (B := B) (i := i))
        have i0 : (0 : Int) ≤ (i : Int) := by omega
        have i1 : (i : Int) < (B.size : Int) := by omega
        generalize B.data.toList.getD i 0 = c at *
        have hkk : Hid (chkTo B (i + 1) = (37 * chkTo B i + ((c.toNat : Nat) : Int)) % 9901) := HN2
        obtain ⟨K2, hK2⟩ : ∃ K2, K2 = chkTo B (i + 1) := ⟨_, rfl⟩
        have HK2 := Lib.hid hK2
        rw [← hK2] at hkk
        clear hK2 HN2 hm2
        generalize chkTo B i = K at *
        go_wp2
        go_roundw
        case rel => exact ⟨i + 1, by omega, by go_num, by rw [← HK2.out, hkk.out, Int.mul_comm], HG⟩
        case measure => simp [intOf]; omega
      · obtain rfl : i = m := by omega
        have hkb := chkTo_bd B i
        have HA3 : Hid (∀ g off c u, u.cell? ⟨g, off, none⟩ = some (.int .i64 (chkTo B i)) → Tab u → Calls Tryz.prog 44 #[.slice (some ⟨g, off, none⟩) 1 c] u fun e w' => e = .returned (.string (txt (chkTo B i))) ∧ Gr u w') := Lib.hid (fun g off c u hc h => told_one _ g off c u hc (chk_size hkb) h)
        have z3 := txt_size (chk_size hkb)
        have HTB := Lib.hid (HT.out.gr HG.out)
        have i1 : ¬ (i : Int) < (B.size : Int) := by omega
        have hm := HM.out
        generalize txt (chkTo B i) = T3 at *
        generalize chkTo B i = K at *
        have c1 : ¬ 9223372036854775807 < B.size + 1 := by omega
        have c2 : ¬ 9223372036854775807 < B.size + 1 + T3.size := by omega
        have c3 : ¬ 9223372036854775807 < B.size + 1 + T3.size + 1 := by omega
        clear z3 hm hl hm2
        go_wp2_with (go_at_call 44; refine (HA3.out _ 0 1 _ (by simp) (HTB.out.gr ((Gr.refl wr).alloc _))).mono ?_; rintro e w3 ⟨rfl, hg⟩; have HG3 := Lib.hid (HG.out.trans (((Gr.refl wr).alloc _).trans hg)); clear hg)
        go_ret
        exact ⟨by rw [HJ.out]; rfl, HG3.out⟩
end Go.Proofs.YticifnegoacopaaGreatDoor

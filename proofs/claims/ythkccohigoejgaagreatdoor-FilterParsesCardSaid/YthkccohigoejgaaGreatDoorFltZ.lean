/-
  The program's Parse, walked.
-/
import Derived.Test.YthkccohigoejgaaGreatDoorFltY
import Derived.StillTailTactics
namespace Go.Proofs.YthkccohigoejgaaGreatDoor
open Go Go.RowKit

theorem one_any {w0 : World} {r m : Nat} {L : List Tok} {e : Int} (HE : Env w0) : ∀ (d : Nat), d ≤ 20 → ∀ {w : World} {k : Nat}, Rd w0 w r m L k e →
    Calls Tryz.prog 12 #[.pointer (some ⟨r, 0, none⟩), .int .i64 (d : Int)] w fun E w' => PAns w0 w w' r m d L e E (pOne d (L.drop k))
  | 0, _, _, _, h => one_zero h
  | d + 1, hd, _, _, h => one_succ HE d (by omega) (fun h => one_any HE d (by omega) h) h
/-- What Parse makes of a text. -/
def pAll (t : ByteArray) : PR :=
  match pOne 20 (toks t) with
  | .ok f [] => .ok f []
  | .ok _ (x :: r) => .err 3 (x :: r)
  | .err c r => .err c r
def FAns (w w' : World) (n : Int) (E : Ending) : PR → Prop
  | .ok f _ => ∃ v, E = .returned (.tuple #[v, .nilIface]) ∧ FltV (fun g => w.heap.size ≤ g) 20 w' v f ∧ Gr w w'
  | .err c R => ∃ u b, E = .returned (.tuple #[.nilIface, u]) ∧ AtErr w' u b c (placeOf n R) ∧ Gr w w'
set_option maxRecDepth 100000 in
set_option maxHeartbeats 8000000 in
theorem parse_any {w : World} (HE : Env w) (t : ByteArray) (ht : t.size ≤ 2000) :
    Calls Tryz.prog 5 #[.string t] w fun E w' => FAns w w' (t.size : Int) E (pAll t) := by
  have HEN := Lib.hid HE
  clear HE
  obtain ⟨n, hn⟩ : ∃ n, n = t.size := ⟨_, rfl⟩
  have HN := Lib.hid hn
  rw [← hn] at ht ⊢
  clear hn
  have hlen : ∀ w ty, (Builtin.len_ #[9] ty #[.string t]).run Tryz.prog w = .ok (.int .i64 (n : Int)) w := fun w ty => by rw [HN.out]; simp [go_sem, Tryz.underlying9]
  have n0 : (n : Int) ≤ 2000 := by omega
  go_enter Tryz.func5, Tryz.ntmps5
  go_wp2
  obtain ⟨r, hr⟩ : ∃ r, r = w.heap.size := ⟨_, rfl⟩
  obtain ⟨w1, hw1⟩ : ∃ w1, w1 = w.alloc (.cells #[.slice none 0 0, .slice none 0 0, .int .i64 0, .int .i64 (n : Int)] 49) := ⟨_, rfl⟩
  have HT0 : Hid (Tz w w1 r (n : Int) [] (.slice none 0 0) (.slice none 0 0)) := Lib.hid (by
    rw [hw1, hr]
    refine ⟨alloc_cell w _ rfl, alloc_cell w _ rfl, alloc_cell w _ rfl, alloc_cell w _ rfl, fun j => by simp, Row.nil _ _ _ _, Row.nil _ _ _ _, fun g e => by simp [Value.ownBlock] at e, fun g e => by simp [Value.ownBlock] at e, fun g e => by simp [Value.ownBlock] at e, (Gr.refl w).alloc _, Nat.le_refl _⟩)
  rw [← hr, ← hw1]
  clear hr hw1
  go_loopw [5] (fun s wr => ∃ (i : Nat) (L : List Tok) (wv pv : Value), i ≤ n ∧ s = .int .i64 (i : Int) ∧ Hid (PI t i L) ∧ Hid (Tz w wr r (n : Int) L wv pv)) (fun s _ => n - (intOf s).toNat)
  case atStart => exact ⟨0, [], _, _, Nat.zero_le _, rfl, Lib.hid (PI.zero t), HT0⟩
  case round =>
    clear HT0
    obtain ⟨i, L, wv, pv, hi, rfl, HPI, HT⟩ := hrel
    have i0 : (0 : Int) ≤ (i : Int) := by omega
    by_cases hlt : i < n
    · have i1 : (i : Int) < (n : Int) := by omega
      have HIT : Hid (i < t.size) := Lib.hid (by rw [← HN.out]; exact hlt)
      by_cases c1 : chr t i = 32
      · have hx : ∀ w, Sem.run Tryz.prog (Instr.index 9 (.string t) (.int .i64 (i : Int))) w = .ok (.int .u8 32) w := fun w => by rw [run_idx HIT.out, c1]; rfl
        have HP2 := Lib.hid (HPI.out.blank c1)
        clear c1
        go_wp2
        go_roundw
        case rel => exact ⟨i + 1, L, wv, pv, by omega, by go_num, HP2, HT⟩
        case measure => simp [intOf]; omega
      · by_cases c2 : chr t i = 40 ∨ chr t i = 41
        · have HP2 : Hid (PI t (i + 1) (L ++ [(t.extract i (i + 1), (i : Int))])) := Lib.hid (by rw [extract_one HIT.out]; exact HPI.out.mark c2)
          obtain ⟨kk, hkk⟩ : ∃ kk, kk = i + 1 := ⟨_, rfl⟩
          have hkc : (i : Int) + 1 = (kk : Int) := by omega
          have HKC := Lib.hid hkc
          rw [← hkk] at HP2
          have HIK : Hid (i ≤ kk ∧ kk ≤ t.size) := Lib.hid ⟨by omega, by rw [hkk]; exact HIT.out⟩
          have HKI : Hid (i < kk ∧ kk ≤ n) := Lib.hid ⟨by omega, by rw [HN.out]; exact HIK.out.2⟩
          clear hkk hkc
          obtain ⟨wa, wc, hwv⟩ := Row.shape HT.out.ws
          obtain ⟨pa, pc, hpv⟩ := Row.shape HT.out.ps
          subst hwv
          subst hpv
          obtain ⟨X, hX⟩ : ∃ X, X = L.map (·.1) := ⟨_, rfl⟩
          obtain ⟨Y, hY⟩ : ∃ Y, Y = L.map (·.2) := ⟨_, rfl⟩
          have HXY := Lib.hid (And.intro hX hY)
          rw [← hX, ← hY] at HT
          have HTC := Lib.hid (And.intro HT.out.c0 HT.out.c1)
          have HNR : Hid (¬ ((Value.slice wa X.length wc).ownBlock = some r ∨ (Value.slice pa Y.length pc).ownBlock = some r)) := Lib.hid (fun e => e.elim (fun e => (HT.out.ow r e).2 rfl) (fun e => (HT.out.op r e).2 rfl))
          have HRW : Hid (StrRow wr (.slice wa X.length wc) X ∧ IntRow wr (.slice pa Y.length pc) Y) := Lib.hid ⟨by rw [hX]; rw [hX] at HT; exact HT.out.ws, by rw [hY]; rw [hY] at HT; exact HT.out.ps⟩
          have HAP := Lib.hid HT.out.ap
          have HOW : Hid ((∀ g, (Value.slice wa X.length wc).ownBlock = some g → g < wr.heap.size) ∧ ∀ g, (Value.slice pa Y.length pc).ownBlock = some g → g < wr.heap.size) := Lib.hid ⟨fun g e => Row.lt HRW.out.1 e, fun g e => Row.lt HRW.out.2 e⟩
          have HFEW : Hid (X.length ≤ 999999 ∧ Y.length ≤ 999999) := Lib.hid (by have := (fold_few t i).1; rw [HPI.out.2] at this; rw [hX, hY, List.length_map, List.length_map]; omega)
          clear hX hY
          rcases c2 with c2 | c2
          · have hx : ∀ w, Sem.run Tryz.prog (Instr.index 9 (.string t) (.int .i64 (i : Int))) w = .ok (.int .u8 40) w := fun w => by rw [run_idx HIT.out, c2]; rfl
            clear c1 c2
            go_wp2
            rw [HKC.out]
            refine wp_region_l (n := 22) (RW wr r (n : Int) (.slice wa X.length wc) (.slice pa Y.length pc) X Y) 21 [Fv.of 0 (Fg.eq (.pointer (some ⟨r, 0, none⟩))), Fv.of 1 (Fg.eq (.pointer (some ⟨r, 0, none⟩))), Fv.of 2 (Fg.eq (.pointer (some ⟨r, 0, none⟩))), Fv.of 3 (Fg.eq (.pointer (some ⟨r, 0, none⟩))), Fv.of 4 (Fg.eq (.pointer (some ⟨r, 0, none⟩))), Fv.of 5 (Fg.eq (.slice wa X.length wc)), Fv.of 6 (Fg.eq (.string t)), Fv.of 7 (Fg.eq (.int .i64 (i : Int))), Fv.of 8 (Fg.eq (.int .i64 (kk : Int))), Fv.of 9 (Fg.eq (.string (t.extract i (kk)))), Fv.of 10 (Fg.newS wr.heap.size (t.extract i (kk))), Fv.of 11 (Fg.rowS wr.heap.size (.slice wa X.length wc) (X ++ [t.extract i (kk)])), Fv.of 12 (Fg.eq (.pointer (some ⟨r, 0, none⟩))), Fv.of 13 (Fg.eq (.pointer (some ⟨r, 0, none⟩))), Fv.of 14 (Fg.eq (.pointer (some ⟨r, 1, none⟩))), Fv.of 15 (Fg.eq (.slice pa Y.length pc)), Fv.of 16 (Fg.eq (.int .i64 (i : Int))), Fv.of 17 (Fg.newI wr.heap.size (i : Int)), Fv.of 18 (Fg.rowI wr.heap.size (.slice pa Y.length pc) (Y ++ [(i : Int)])), Fv.of 19 (Fg.eq (.pointer (some ⟨r, 0, none⟩))), Fv.of 20 (Fg.eq (.pointer (some ⟨r, 0, none⟩))), Fv.cell0 11 r] [58, 59, 60, 61, 62, 63, 64, 65, 66, 67, 68, 69, 70, 71, 72, 73, 74, 75, 76, 77, 78] ⟨.of_gr (Gr.refl wr).drew, Row.gr HRW.out.1 (Gr.refl wr).drew, Row.gr HRW.out.2 (Gr.refl wr).drew, fun _ => HT.out.c0, HT.out.c1, HT.out.c2, HT.out.c3, HT.out.fz⟩ (by decide) (by kernel_rfl) (by kernel_rfl) (by kernel_rfl) (by kernel_rfl) ?_ ?_
            · intro L' q o a w1 hi ho hA
              match q, hi with
              | 0, _ =>
                obtain rfl := Option.some.inj ho
                exact lstep_val hA (by decide) (s_move rfl (show a.eval (.tmp 4) = .pointer (some ⟨r, 0, none⟩) from hA.other 4 (by decide))) (fun _ hf => hf)
              | 1, _ =>
                obtain rfl := Option.some.inj ho
                exact lstep_val hA (by decide) (s_move rfl (show a.eval (.tmp 4) = .pointer (some ⟨r, 0, none⟩) from hA.other 4 (by decide))) (fun _ hf => hf)
              | 2, _ =>
                obtain rfl := Option.some.inj ho
                exact lstep_val hA (by decide) (s_move rfl (show a.eval (.tmp 4) = .pointer (some ⟨r, 0, none⟩) from hA.other 4 (by decide))) (fun _ hf => hf)
              | 3, _ =>
                obtain rfl := Option.some.inj ho
                exact lstep_val hA (by decide) (s_nil rfl (hA.fact 2 (hA.dep 2 (by kernel_rfl) (by decide)))) (fun _ hf => hf)
              | 4, _ =>
                obtain rfl := Option.some.inj ho
                exact lstep_val hA (by decide) (s_fa0 rfl (hA.fact 3 (hA.dep 3 (by kernel_rfl) (by decide)))) (fun _ hf => hf)
              | 5, _ =>
                obtain rfl := Option.some.inj ho
                have hI := hA.no (fun h => hA.self (hA.closed 11 5 (hA.closed 21 11 h (by kernel_rfl) (by decide)) (by kernel_rfl) (by decide)))
                exact lstep_val hA (by decide) (s_loadS rfl (hA.fact 4 (hA.dep 4 (by kernel_rfl) (by decide))) (hI.k0 rfl)) (fun _ hf => hf)
              | 6, _ =>
                obtain rfl := Option.some.inj ho
                exact lstep_val hA (by decide) (s_move rfl (show a.eval (.tmp 0) = .string t from hA.other 0 (by decide))) (fun _ hf => hf)
              | 7, _ =>
                obtain rfl := Option.some.inj ho
                exact lstep_val hA (by decide) (s_move rfl (show a.eval (.tmp 5) = .int .i64 (i : Int) from hA.other 5 (by decide))) (fun _ hf => hf)
              | 8, _ =>
                obtain rfl := Option.some.inj ho
                exact lstep_val hA (by decide) (s_move rfl (show a.eval (.tmp 6) = .int .i64 (kk : Int) from hA.other 6 (by decide))) (fun _ hf => hf)
              | 9, _ =>
                obtain rfl := Option.some.inj ho
                exact lstep_val hA (by decide) (s_sub rfl (hA.fact 6 (hA.dep 6 (by kernel_rfl) (by decide))) (hA.fact 7 (hA.dep 7 (by kernel_rfl) (by decide))) (hA.fact 8 (hA.dep 8 (by kernel_rfl) (by decide))) HIK.out.1 HIK.out.2) (fun _ hf => hf)
              | 10, _ =>
                obtain rfl := Option.some.inj ho
                have hI := hA.no (fun h => hA.self (hA.closed 11 10 (hA.closed 21 11 h (by kernel_rfl) (by decide)) (by kernel_rfl) (by decide)))
                exact lstep_new hA (by decide) (s_buildS rfl (hA.fact 9 (hA.dep 9 (by kernel_rfl) (by decide)))) ((Gr.refl _).alloc _) (fun b h => h.gr ((Gr.refl _).alloc _)) (fun f hf => ⟨_, hf, hI.sav.size, by simp⟩)
              | 11, _ =>
                obtain rfl := Option.some.inj ho
                have hI := hA.no (fun h => hA.self (hA.closed 21 11 h (by kernel_rfl) (by decide)))
                obtain ⟨g, hv, hge, hcg⟩ := (hA.fact 10 (hA.dep 10 (by kernel_rfl) (by decide)))
                obtain ⟨v', w', hr, hrow, hgrow, hown, hold⟩ := hI.r1.app (g := g) (c := 1) hcg HFEW.out.1
                have sv : Sav (fun g => (Value.slice wa X.length wc).ownBlock = some g) w1 w' := .of_grown hgrow fun _ h => h
                have hnr : ¬ (Value.slice wa X.length wc).ownBlock = some r := fun e => HNR.out (.inl e)
                have hown' : ∀ q, v'.ownBlock = some q → (Value.slice wa X.length wc).ownBlock = some q ∨ wr.heap.size ≤ q := fun q hq => (hown q hq).imp id (Nat.le_trans hI.sav.size)
                refine lstep_keep hA (by decide) (s_app rfl (hA.fact 5 (hA.dep 5 (by kernel_rfl) (by decide))) hv hr) (fun b h => h.sv sv (fun q e => .inl e) hnr hold (Row.sav h.r2 sv (fun q e e2 => HAP.out q e2 e))) (fun f hf _ => ⟨by rw [show f 11 = v' from hf]; exact hrow, by rw [show f 11 = v' from hf]; exact hown'⟩) (fun j hj hu => ?_)
                match j, hj, hu with
                | 0, _, hu => exact hu
                | 1, _, hu => exact hu
                | 2, _, hu => exact hu
                | 3, _, hu => exact hu
                | 4, _, hu => exact hu
                | 5, _, hu => exact hu
                | 6, _, hu => exact hu
                | 7, _, hu => exact hu
                | 8, _, hu => exact hu
                | 9, _, hu => exact hu
                | 10, _, hu => obtain ⟨g', h0, h1, h2⟩ := hu; exact ⟨g', h0, h1, sv.cell h2 (fun e => by have := HOW.out.1 g' e; omega)⟩
                | 11, hj, _ => exact (hA.self hj).elim
                | 12, _, hu => exact hu
                | 13, _, hu => exact hu
                | 14, _, hu => exact hu
                | 15, _, hu => exact hu
                | 16, _, hu => exact hu
                | 17, _, hu => obtain ⟨g', h0, h1, h2⟩ := hu; exact ⟨g', h0, h1, sv.cell h2 (fun e => by have := HOW.out.1 g' e; omega)⟩
                | 18, _, hu => exact (show ∀ z, (IntRow w1 z (Y ++ [(i : Int)]) ∧ ∀ g, z.ownBlock = some g → (Value.slice pa Y.length pc).ownBlock = some g ∨ wr.heap.size ≤ g) → (IntRow w' z (Y ++ [(i : Int)]) ∧ ∀ g, z.ownBlock = some g → (Value.slice pa Y.length pc).ownBlock = some g ∨ wr.heap.size ≤ g) from fun z hz => ⟨Row.sav hz.1 sv (fun q e e2 => (hz.2 q e).elim (fun h => HAP.out q e2 h) (fun h => by have := HOW.out.1 q e2; omega)), hz.2⟩) _ hu
                | 19, _, hu => exact hu
                | 20, _, hu => exact hu
                | 21, hj, _ => exact (hA.self (hA.closed 21 11 hj (by kernel_rfl) (by decide))).elim
                | j + 22, hj, _ => exact absurd (hA.low _ hj) (by omega)
              | 12, _ =>
                obtain rfl := Option.some.inj ho
                exact lstep_val hA (by decide) (s_move rfl (show a.eval (.tmp 4) = .pointer (some ⟨r, 0, none⟩) from hA.other 4 (by decide))) (fun _ hf => hf)
              | 13, _ =>
                obtain rfl := Option.some.inj ho
                exact lstep_val hA (by decide) (s_nil rfl (hA.fact 12 (hA.dep 12 (by kernel_rfl) (by decide)))) (fun _ hf => hf)
              | 14, _ =>
                obtain rfl := Option.some.inj ho
                exact lstep_val hA (by decide) (s_fa1 rfl (hA.fact 13 (hA.dep 13 (by kernel_rfl) (by decide)))) (fun _ hf => hf)
              | 15, _ =>
                obtain rfl := Option.some.inj ho
                have hI := hA.no (fun h => hA.self (hA.closed 18 15 (hA.closed 21 18 h (by kernel_rfl) (by decide)) (by kernel_rfl) (by decide)))
                exact lstep_val hA (by decide) (s_loadI rfl (hA.fact 14 (hA.dep 14 (by kernel_rfl) (by decide))) hI.k1) (fun _ hf => hf)
              | 16, _ =>
                obtain rfl := Option.some.inj ho
                exact lstep_val hA (by decide) (s_move rfl (show a.eval (.tmp 5) = .int .i64 (i : Int) from hA.other 5 (by decide))) (fun _ hf => hf)
              | 17, _ =>
                obtain rfl := Option.some.inj ho
                have hI := hA.no (fun h => hA.self (hA.closed 18 17 (hA.closed 21 18 h (by kernel_rfl) (by decide)) (by kernel_rfl) (by decide)))
                exact lstep_new hA (by decide) (s_buildI rfl (hA.fact 16 (hA.dep 16 (by kernel_rfl) (by decide)))) ((Gr.refl _).alloc _) (fun b h => h.gr ((Gr.refl _).alloc _)) (fun f hf => ⟨_, hf, hI.sav.size, by simp⟩)
              | 18, _ =>
                obtain rfl := Option.some.inj ho
                have hI := hA.no (fun h => hA.self (hA.closed 21 18 h (by kernel_rfl) (by decide)))
                obtain ⟨g, hv, hge, hcg⟩ := (hA.fact 17 (hA.dep 17 (by kernel_rfl) (by decide)))
                obtain ⟨v', w', hr, hrow, hgrow, hown, hold⟩ := hI.r2.app (g := g) (c := 1) hcg HFEW.out.2
                have sv : Sav (fun g => (Value.slice pa Y.length pc).ownBlock = some g) w1 w' := .of_grown hgrow fun _ h => h
                have hnr : ¬ (Value.slice pa Y.length pc).ownBlock = some r := fun e => HNR.out (.inr e)
                have hown' : ∀ q, v'.ownBlock = some q → (Value.slice pa Y.length pc).ownBlock = some q ∨ wr.heap.size ≤ q := fun q hq => (hown q hq).imp id (Nat.le_trans hI.sav.size)
                refine lstep_keep hA (by decide) (s_app rfl (hA.fact 15 (hA.dep 15 (by kernel_rfl) (by decide))) hv hr) (fun b h => h.sv sv (fun q e => .inr e) hnr (Row.sav h.r1 sv (fun q e e2 => HAP.out q e e2)) hold) (fun f hf _ => ⟨by rw [show f 18 = v' from hf]; exact hrow, by rw [show f 18 = v' from hf]; exact hown'⟩) (fun j hj hu => ?_)
                match j, hj, hu with
                | 0, _, hu => exact hu
                | 1, _, hu => exact hu
                | 2, _, hu => exact hu
                | 3, _, hu => exact hu
                | 4, _, hu => exact hu
                | 5, _, hu => exact hu
                | 6, _, hu => exact hu
                | 7, _, hu => exact hu
                | 8, _, hu => exact hu
                | 9, _, hu => exact hu
                | 10, _, hu => obtain ⟨g', h0, h1, h2⟩ := hu; exact ⟨g', h0, h1, sv.cell h2 (fun e => by have := HOW.out.2 g' e; omega)⟩
                | 11, _, hu => exact (show ∀ z, (StrRow w1 z (X ++ [t.extract i (kk)]) ∧ ∀ g, z.ownBlock = some g → (Value.slice wa X.length wc).ownBlock = some g ∨ wr.heap.size ≤ g) → (StrRow w' z (X ++ [t.extract i (kk)]) ∧ ∀ g, z.ownBlock = some g → (Value.slice wa X.length wc).ownBlock = some g ∨ wr.heap.size ≤ g) from fun z hz => ⟨Row.sav hz.1 sv (fun q e e2 => (hz.2 q e).elim (fun h => HAP.out q h e2) (fun h => by have := HOW.out.2 q e2; omega)), hz.2⟩) _ hu
                | 12, _, hu => exact hu
                | 13, _, hu => exact hu
                | 14, _, hu => exact hu
                | 15, _, hu => exact hu
                | 16, _, hu => exact hu
                | 17, _, hu => obtain ⟨g', h0, h1, h2⟩ := hu; exact ⟨g', h0, h1, sv.cell h2 (fun e => by have := HOW.out.2 g' e; omega)⟩
                | 18, hj, _ => exact (hA.self hj).elim
                | 19, _, hu => exact hu
                | 20, _, hu => exact hu
                | 21, hj, _ => exact (hA.self (hA.closed 21 18 hj (by kernel_rfl) (by decide))).elim
                | j + 22, hj, _ => exact absurd (hA.low _ hj) (by omega)
              | 19, _ =>
                obtain rfl := Option.some.inj ho
                exact lstep_val hA (by decide) (s_nil rfl (hA.fact 0 (hA.dep 0 (by kernel_rfl) (by decide)))) (fun _ hf => hf)
              | 20, _ =>
                obtain rfl := Option.some.inj ho
                exact lstep_val hA (by decide) (s_fa0 rfl (hA.fact 19 (hA.dep 19 (by kernel_rfl) (by decide)))) (fun _ hf => hf)
              | 21, _ =>
                obtain rfl := Option.some.inj ho
                have hI := hA.no hA.self
                have h11 : StrRow w1 (valOf _ a 11) (X ++ [t.extract i (kk)]) ∧ ∀ g, (valOf _ a 11).ownBlock = some g → (Value.slice wa X.length wc).ownBlock = some g ∨ wr.heap.size ≤ g := hA.fact 11 (hA.dep 11 (by kernel_rfl) (by decide))
                have hn1 : (Value.slice wa X.length wc).ownBlock ≠ some r := fun e => HNR.out (.inl e)
                have hn2 : (Value.slice pa Y.length pc).ownBlock ≠ some r := fun e => HNR.out (.inr e)
                have k5 : ∀ z, Sav (fun q => q = r) w1 (w1.setCell ⟨r, 0, none⟩ z) := fun z => .set r 0 z
                have hrl : r < wr.heap.size := cell_lt HTC.out.1
                obtain ⟨za, zc, hz⟩ := Row.shape h11.1
                refine lstep_setc hA rfl rfl (s_storeS rfl (hA.fact 20 (hA.dep 20 (by kernel_rfl) (by decide))) rfl hz (hI.k0 rfl) (hI.fz 0)) (hI.set hn1 hn2 _) (fun f hL => ?_) (fun j hj hu => ?_)
                · show (w1.setCell ⟨r, 0, none⟩ _).cell? ⟨r, 0, none⟩ = some (f 11)
                  rw [hL 11 (hA.dep 11 (by kernel_rfl) (by decide))]
                  exact World.cell?_setCell_same _ _ _ (hI.k0 rfl)
                match j, hj, hu with
                | 0, _, hu => exact hu
                | 1, _, hu => exact hu
                | 2, _, hu => exact hu
                | 3, _, hu => exact hu
                | 4, _, hu => exact hu
                | 5, _, hu => exact hu
                | 6, _, hu => exact hu
                | 7, _, hu => exact hu
                | 8, _, hu => exact hu
                | 9, _, hu => exact hu
                | 10, _, hu => obtain ⟨g', h0, h1, h2⟩ := hu; exact ⟨g', h0, h1, (k5 _).cell h2 (fun e => by have h9 : g' = r := e; omega)⟩
                | 11, _, hu => exact (show ∀ z y, (StrRow w1 z (X ++ [t.extract i (kk)]) ∧ ∀ g, z.ownBlock = some g → (Value.slice wa X.length wc).ownBlock = some g ∨ wr.heap.size ≤ g) → (StrRow (w1.setCell ⟨r, 0, none⟩ y) z (X ++ [t.extract i (kk)]) ∧ ∀ g, z.ownBlock = some g → (Value.slice wa X.length wc).ownBlock = some g ∨ wr.heap.size ≤ g) from fun z y hz => ⟨Row.sav hz.1 (k5 y) (fun q e e2 => (hz.2 q e).elim (fun h => hn1 (by rw [h, show q = r from e2])) (fun h => by have h9 : q = r := e2; omega)), hz.2⟩) _ _ hu
                | 12, _, hu => exact hu
                | 13, _, hu => exact hu
                | 14, _, hu => exact hu
                | 15, _, hu => exact hu
                | 16, _, hu => exact hu
                | 17, _, hu => obtain ⟨g', h0, h1, h2⟩ := hu; exact ⟨g', h0, h1, (k5 _).cell h2 (fun e => by have h9 : g' = r := e; omega)⟩
                | 18, _, hu => exact (show ∀ z y, (IntRow w1 z (Y ++ [(i : Int)]) ∧ ∀ g, z.ownBlock = some g → (Value.slice pa Y.length pc).ownBlock = some g ∨ wr.heap.size ≤ g) → (IntRow (w1.setCell ⟨r, 0, none⟩ y) z (Y ++ [(i : Int)]) ∧ ∀ g, z.ownBlock = some g → (Value.slice pa Y.length pc).ownBlock = some g ∨ wr.heap.size ≤ g) from fun z y hz => ⟨Row.sav hz.1 (k5 y) (fun q e e2 => (hz.2 q e).elim (fun h => hn2 (by rw [h, show q = r from e2])) (fun h => by have h9 : q = r := e2; omega)), hz.2⟩) _ _ hu
                | 19, _, hu => exact hu
                | 20, _, hu => exact hu
                | 21, hj, _ => exact (hA.self hj).elim
                | j + 22, hj, _ => exact absurd (hA.low _ hj) (by omega)
              | q + 22, hk => exact absurd (show q + 22 < 22 from hk) (by omega)
            · intro vs w5 hI hv
              obtain ⟨e1, o1⟩ : StrRow w5 (vs 11) (X ++ [t.extract i (kk)]) ∧ ∀ g, (vs 11).ownBlock = some g → (Value.slice wa X.length wc).ownBlock = some g ∨ wr.heap.size ≤ g := hv 11 (by omega)
              obtain ⟨e2, o2⟩ : IntRow w5 (vs 18) (Y ++ [(i : Int)]) ∧ ∀ g, (vs 18).ownBlock = some g → (Value.slice pa Y.length pc).ownBlock = some g ∨ wr.heap.size ≤ g := hv 18 (by omega)
              have hc0 : w5.cell? ⟨r, 0, none⟩ = some (vs 11) := hv 21 (by omega)
              have v1 : vs 1 = .pointer (some ⟨r, 0, none⟩) := hv 1 (by omega)
              clear hv
              simp only [putN, List.drop_succ_cons, List.drop_zero, List.getElem?_cons_succ, List.getElem?_cons_zero, List.getElem?_nil]
              generalize vs 11 = z1 at *
              generalize vs 18 = z2 at *
              generalize vs 1 = y1 at *
              subst v1
              obtain ⟨ra, rc, er⟩ := Row.shape e1
              obtain ⟨sa, sc, es⟩ := Row.shape e2
              rw [show (X ++ [t.extract i (kk)]).length = X.length + 1 from by simp] at er
              rw [show (Y ++ [(i : Int)]).length = Y.length + 1 from by simp] at es
              subst er
              subst es
              have HT2 := Lib.hid (Tz.more HT.out hI hc0 (by rw [← HXY.out.1]; exact e1) (by rw [← HXY.out.2]; exact e2) o1 o2)
              have d1 := hI.k1
              have d3 := hI.fz 1
              clear hI hc0 e1 e2 o1 o2
              go_wp2
              go_roundw
              case rel => exact ⟨kk, _, _, _, HKI.out.2, rfl, HP2, HT2⟩
              case measure => have := HKI.out; simp [intOf]; omega
          · have hx : ∀ w, Sem.run Tryz.prog (Instr.index 9 (.string t) (.int .i64 (i : Int))) w = .ok (.int .u8 41) w := fun w => by rw [run_idx HIT.out, c2]; rfl
            clear c1 c2
            go_wp2
            rw [HKC.out]
            refine wp_region_l (n := 22) (RW wr r (n : Int) (.slice wa X.length wc) (.slice pa Y.length pc) X Y) 21 [Fv.of 0 (Fg.eq (.pointer (some ⟨r, 0, none⟩))), Fv.of 1 (Fg.eq (.pointer (some ⟨r, 0, none⟩))), Fv.of 2 (Fg.eq (.pointer (some ⟨r, 0, none⟩))), Fv.of 3 (Fg.eq (.pointer (some ⟨r, 0, none⟩))), Fv.of 4 (Fg.eq (.pointer (some ⟨r, 0, none⟩))), Fv.of 5 (Fg.eq (.slice wa X.length wc)), Fv.of 6 (Fg.eq (.string t)), Fv.of 7 (Fg.eq (.int .i64 (i : Int))), Fv.of 8 (Fg.eq (.int .i64 (kk : Int))), Fv.of 9 (Fg.eq (.string (t.extract i (kk)))), Fv.of 10 (Fg.newS wr.heap.size (t.extract i (kk))), Fv.of 11 (Fg.rowS wr.heap.size (.slice wa X.length wc) (X ++ [t.extract i (kk)])), Fv.of 12 (Fg.eq (.pointer (some ⟨r, 0, none⟩))), Fv.of 13 (Fg.eq (.pointer (some ⟨r, 0, none⟩))), Fv.of 14 (Fg.eq (.pointer (some ⟨r, 1, none⟩))), Fv.of 15 (Fg.eq (.slice pa Y.length pc)), Fv.of 16 (Fg.eq (.int .i64 (i : Int))), Fv.of 17 (Fg.newI wr.heap.size (i : Int)), Fv.of 18 (Fg.rowI wr.heap.size (.slice pa Y.length pc) (Y ++ [(i : Int)])), Fv.of 19 (Fg.eq (.pointer (some ⟨r, 0, none⟩))), Fv.of 20 (Fg.eq (.pointer (some ⟨r, 0, none⟩))), Fv.cell0 11 r] [58, 59, 60, 61, 62, 63, 64, 65, 66, 67, 68, 69, 70, 71, 72, 73, 74, 75, 76, 77, 78] ⟨.of_gr (Gr.refl wr).drew, Row.gr HRW.out.1 (Gr.refl wr).drew, Row.gr HRW.out.2 (Gr.refl wr).drew, fun _ => HT.out.c0, HT.out.c1, HT.out.c2, HT.out.c3, HT.out.fz⟩ (by decide) (by kernel_rfl) (by kernel_rfl) (by kernel_rfl) (by kernel_rfl) ?_ ?_
            · intro L' q o a w1 hi ho hA
              match q, hi with
              | 0, _ =>
                obtain rfl := Option.some.inj ho
                exact lstep_val hA (by decide) (s_move rfl (show a.eval (.tmp 4) = .pointer (some ⟨r, 0, none⟩) from hA.other 4 (by decide))) (fun _ hf => hf)
              | 1, _ =>
                obtain rfl := Option.some.inj ho
                exact lstep_val hA (by decide) (s_move rfl (show a.eval (.tmp 4) = .pointer (some ⟨r, 0, none⟩) from hA.other 4 (by decide))) (fun _ hf => hf)
              | 2, _ =>
                obtain rfl := Option.some.inj ho
                exact lstep_val hA (by decide) (s_move rfl (show a.eval (.tmp 4) = .pointer (some ⟨r, 0, none⟩) from hA.other 4 (by decide))) (fun _ hf => hf)
              | 3, _ =>
                obtain rfl := Option.some.inj ho
                exact lstep_val hA (by decide) (s_nil rfl (hA.fact 2 (hA.dep 2 (by kernel_rfl) (by decide)))) (fun _ hf => hf)
              | 4, _ =>
                obtain rfl := Option.some.inj ho
                exact lstep_val hA (by decide) (s_fa0 rfl (hA.fact 3 (hA.dep 3 (by kernel_rfl) (by decide)))) (fun _ hf => hf)
              | 5, _ =>
                obtain rfl := Option.some.inj ho
                have hI := hA.no (fun h => hA.self (hA.closed 11 5 (hA.closed 21 11 h (by kernel_rfl) (by decide)) (by kernel_rfl) (by decide)))
                exact lstep_val hA (by decide) (s_loadS rfl (hA.fact 4 (hA.dep 4 (by kernel_rfl) (by decide))) (hI.k0 rfl)) (fun _ hf => hf)
              | 6, _ =>
                obtain rfl := Option.some.inj ho
                exact lstep_val hA (by decide) (s_move rfl (show a.eval (.tmp 0) = .string t from hA.other 0 (by decide))) (fun _ hf => hf)
              | 7, _ =>
                obtain rfl := Option.some.inj ho
                exact lstep_val hA (by decide) (s_move rfl (show a.eval (.tmp 5) = .int .i64 (i : Int) from hA.other 5 (by decide))) (fun _ hf => hf)
              | 8, _ =>
                obtain rfl := Option.some.inj ho
                exact lstep_val hA (by decide) (s_move rfl (show a.eval (.tmp 6) = .int .i64 (kk : Int) from hA.other 6 (by decide))) (fun _ hf => hf)
              | 9, _ =>
                obtain rfl := Option.some.inj ho
                exact lstep_val hA (by decide) (s_sub rfl (hA.fact 6 (hA.dep 6 (by kernel_rfl) (by decide))) (hA.fact 7 (hA.dep 7 (by kernel_rfl) (by decide))) (hA.fact 8 (hA.dep 8 (by kernel_rfl) (by decide))) HIK.out.1 HIK.out.2) (fun _ hf => hf)
              | 10, _ =>
                obtain rfl := Option.some.inj ho
                have hI := hA.no (fun h => hA.self (hA.closed 11 10 (hA.closed 21 11 h (by kernel_rfl) (by decide)) (by kernel_rfl) (by decide)))
                exact lstep_new hA (by decide) (s_buildS rfl (hA.fact 9 (hA.dep 9 (by kernel_rfl) (by decide)))) ((Gr.refl _).alloc _) (fun b h => h.gr ((Gr.refl _).alloc _)) (fun f hf => ⟨_, hf, hI.sav.size, by simp⟩)
              | 11, _ =>
                obtain rfl := Option.some.inj ho
                have hI := hA.no (fun h => hA.self (hA.closed 21 11 h (by kernel_rfl) (by decide)))
                obtain ⟨g, hv, hge, hcg⟩ := (hA.fact 10 (hA.dep 10 (by kernel_rfl) (by decide)))
                obtain ⟨v', w', hr, hrow, hgrow, hown, hold⟩ := hI.r1.app (g := g) (c := 1) hcg HFEW.out.1
                have sv : Sav (fun g => (Value.slice wa X.length wc).ownBlock = some g) w1 w' := .of_grown hgrow fun _ h => h
                have hnr : ¬ (Value.slice wa X.length wc).ownBlock = some r := fun e => HNR.out (.inl e)
                have hown' : ∀ q, v'.ownBlock = some q → (Value.slice wa X.length wc).ownBlock = some q ∨ wr.heap.size ≤ q := fun q hq => (hown q hq).imp id (Nat.le_trans hI.sav.size)
                refine lstep_keep hA (by decide) (s_app rfl (hA.fact 5 (hA.dep 5 (by kernel_rfl) (by decide))) hv hr) (fun b h => h.sv sv (fun q e => .inl e) hnr hold (Row.sav h.r2 sv (fun q e e2 => HAP.out q e2 e))) (fun f hf _ => ⟨by rw [show f 11 = v' from hf]; exact hrow, by rw [show f 11 = v' from hf]; exact hown'⟩) (fun j hj hu => ?_)
                match j, hj, hu with
                | 0, _, hu => exact hu
                | 1, _, hu => exact hu
                | 2, _, hu => exact hu
                | 3, _, hu => exact hu
                | 4, _, hu => exact hu
                | 5, _, hu => exact hu
                | 6, _, hu => exact hu
                | 7, _, hu => exact hu
                | 8, _, hu => exact hu
                | 9, _, hu => exact hu
                | 10, _, hu => obtain ⟨g', h0, h1, h2⟩ := hu; exact ⟨g', h0, h1, sv.cell h2 (fun e => by have := HOW.out.1 g' e; omega)⟩
                | 11, hj, _ => exact (hA.self hj).elim
                | 12, _, hu => exact hu
                | 13, _, hu => exact hu
                | 14, _, hu => exact hu
                | 15, _, hu => exact hu
                | 16, _, hu => exact hu
                | 17, _, hu => obtain ⟨g', h0, h1, h2⟩ := hu; exact ⟨g', h0, h1, sv.cell h2 (fun e => by have := HOW.out.1 g' e; omega)⟩
                | 18, _, hu => exact (show ∀ z, (IntRow w1 z (Y ++ [(i : Int)]) ∧ ∀ g, z.ownBlock = some g → (Value.slice pa Y.length pc).ownBlock = some g ∨ wr.heap.size ≤ g) → (IntRow w' z (Y ++ [(i : Int)]) ∧ ∀ g, z.ownBlock = some g → (Value.slice pa Y.length pc).ownBlock = some g ∨ wr.heap.size ≤ g) from fun z hz => ⟨Row.sav hz.1 sv (fun q e e2 => (hz.2 q e).elim (fun h => HAP.out q e2 h) (fun h => by have := HOW.out.1 q e2; omega)), hz.2⟩) _ hu
                | 19, _, hu => exact hu
                | 20, _, hu => exact hu
                | 21, hj, _ => exact (hA.self (hA.closed 21 11 hj (by kernel_rfl) (by decide))).elim
                | j + 22, hj, _ => exact absurd (hA.low _ hj) (by omega)
              | 12, _ =>
                obtain rfl := Option.some.inj ho
                exact lstep_val hA (by decide) (s_move rfl (show a.eval (.tmp 4) = .pointer (some ⟨r, 0, none⟩) from hA.other 4 (by decide))) (fun _ hf => hf)
              | 13, _ =>
                obtain rfl := Option.some.inj ho
                exact lstep_val hA (by decide) (s_nil rfl (hA.fact 12 (hA.dep 12 (by kernel_rfl) (by decide)))) (fun _ hf => hf)
              | 14, _ =>
                obtain rfl := Option.some.inj ho
                exact lstep_val hA (by decide) (s_fa1 rfl (hA.fact 13 (hA.dep 13 (by kernel_rfl) (by decide)))) (fun _ hf => hf)
              | 15, _ =>
                obtain rfl := Option.some.inj ho
                have hI := hA.no (fun h => hA.self (hA.closed 18 15 (hA.closed 21 18 h (by kernel_rfl) (by decide)) (by kernel_rfl) (by decide)))
                exact lstep_val hA (by decide) (s_loadI rfl (hA.fact 14 (hA.dep 14 (by kernel_rfl) (by decide))) hI.k1) (fun _ hf => hf)
              | 16, _ =>
                obtain rfl := Option.some.inj ho
                exact lstep_val hA (by decide) (s_move rfl (show a.eval (.tmp 5) = .int .i64 (i : Int) from hA.other 5 (by decide))) (fun _ hf => hf)
              | 17, _ =>
                obtain rfl := Option.some.inj ho
                have hI := hA.no (fun h => hA.self (hA.closed 18 17 (hA.closed 21 18 h (by kernel_rfl) (by decide)) (by kernel_rfl) (by decide)))
                exact lstep_new hA (by decide) (s_buildI rfl (hA.fact 16 (hA.dep 16 (by kernel_rfl) (by decide)))) ((Gr.refl _).alloc _) (fun b h => h.gr ((Gr.refl _).alloc _)) (fun f hf => ⟨_, hf, hI.sav.size, by simp⟩)
              | 18, _ =>
                obtain rfl := Option.some.inj ho
                have hI := hA.no (fun h => hA.self (hA.closed 21 18 h (by kernel_rfl) (by decide)))
                obtain ⟨g, hv, hge, hcg⟩ := (hA.fact 17 (hA.dep 17 (by kernel_rfl) (by decide)))
                obtain ⟨v', w', hr, hrow, hgrow, hown, hold⟩ := hI.r2.app (g := g) (c := 1) hcg HFEW.out.2
                have sv : Sav (fun g => (Value.slice pa Y.length pc).ownBlock = some g) w1 w' := .of_grown hgrow fun _ h => h
                have hnr : ¬ (Value.slice pa Y.length pc).ownBlock = some r := fun e => HNR.out (.inr e)
                have hown' : ∀ q, v'.ownBlock = some q → (Value.slice pa Y.length pc).ownBlock = some q ∨ wr.heap.size ≤ q := fun q hq => (hown q hq).imp id (Nat.le_trans hI.sav.size)
                refine lstep_keep hA (by decide) (s_app rfl (hA.fact 15 (hA.dep 15 (by kernel_rfl) (by decide))) hv hr) (fun b h => h.sv sv (fun q e => .inr e) hnr (Row.sav h.r1 sv (fun q e e2 => HAP.out q e e2)) hold) (fun f hf _ => ⟨by rw [show f 18 = v' from hf]; exact hrow, by rw [show f 18 = v' from hf]; exact hown'⟩) (fun j hj hu => ?_)
                match j, hj, hu with
                | 0, _, hu => exact hu
                | 1, _, hu => exact hu
                | 2, _, hu => exact hu
                | 3, _, hu => exact hu
                | 4, _, hu => exact hu
                | 5, _, hu => exact hu
                | 6, _, hu => exact hu
                | 7, _, hu => exact hu
                | 8, _, hu => exact hu
                | 9, _, hu => exact hu
                | 10, _, hu => obtain ⟨g', h0, h1, h2⟩ := hu; exact ⟨g', h0, h1, sv.cell h2 (fun e => by have := HOW.out.2 g' e; omega)⟩
                | 11, _, hu => exact (show ∀ z, (StrRow w1 z (X ++ [t.extract i (kk)]) ∧ ∀ g, z.ownBlock = some g → (Value.slice wa X.length wc).ownBlock = some g ∨ wr.heap.size ≤ g) → (StrRow w' z (X ++ [t.extract i (kk)]) ∧ ∀ g, z.ownBlock = some g → (Value.slice wa X.length wc).ownBlock = some g ∨ wr.heap.size ≤ g) from fun z hz => ⟨Row.sav hz.1 sv (fun q e e2 => (hz.2 q e).elim (fun h => HAP.out q h e2) (fun h => by have := HOW.out.2 q e2; omega)), hz.2⟩) _ hu
                | 12, _, hu => exact hu
                | 13, _, hu => exact hu
                | 14, _, hu => exact hu
                | 15, _, hu => exact hu
                | 16, _, hu => exact hu
                | 17, _, hu => obtain ⟨g', h0, h1, h2⟩ := hu; exact ⟨g', h0, h1, sv.cell h2 (fun e => by have := HOW.out.2 g' e; omega)⟩
                | 18, hj, _ => exact (hA.self hj).elim
                | 19, _, hu => exact hu
                | 20, _, hu => exact hu
                | 21, hj, _ => exact (hA.self (hA.closed 21 18 hj (by kernel_rfl) (by decide))).elim
                | j + 22, hj, _ => exact absurd (hA.low _ hj) (by omega)
              | 19, _ =>
                obtain rfl := Option.some.inj ho
                exact lstep_val hA (by decide) (s_nil rfl (hA.fact 0 (hA.dep 0 (by kernel_rfl) (by decide)))) (fun _ hf => hf)
              | 20, _ =>
                obtain rfl := Option.some.inj ho
                exact lstep_val hA (by decide) (s_fa0 rfl (hA.fact 19 (hA.dep 19 (by kernel_rfl) (by decide)))) (fun _ hf => hf)
              | 21, _ =>
                obtain rfl := Option.some.inj ho
                have hI := hA.no hA.self
                have h11 : StrRow w1 (valOf _ a 11) (X ++ [t.extract i (kk)]) ∧ ∀ g, (valOf _ a 11).ownBlock = some g → (Value.slice wa X.length wc).ownBlock = some g ∨ wr.heap.size ≤ g := hA.fact 11 (hA.dep 11 (by kernel_rfl) (by decide))
                have hn1 : (Value.slice wa X.length wc).ownBlock ≠ some r := fun e => HNR.out (.inl e)
                have hn2 : (Value.slice pa Y.length pc).ownBlock ≠ some r := fun e => HNR.out (.inr e)
                have k5 : ∀ z, Sav (fun q => q = r) w1 (w1.setCell ⟨r, 0, none⟩ z) := fun z => .set r 0 z
                have hrl : r < wr.heap.size := cell_lt HTC.out.1
                obtain ⟨za, zc, hz⟩ := Row.shape h11.1
                refine lstep_setc hA rfl rfl (s_storeS rfl (hA.fact 20 (hA.dep 20 (by kernel_rfl) (by decide))) rfl hz (hI.k0 rfl) (hI.fz 0)) (hI.set hn1 hn2 _) (fun f hL => ?_) (fun j hj hu => ?_)
                · show (w1.setCell ⟨r, 0, none⟩ _).cell? ⟨r, 0, none⟩ = some (f 11)
                  rw [hL 11 (hA.dep 11 (by kernel_rfl) (by decide))]
                  exact World.cell?_setCell_same _ _ _ (hI.k0 rfl)
                match j, hj, hu with
                | 0, _, hu => exact hu
                | 1, _, hu => exact hu
                | 2, _, hu => exact hu
                | 3, _, hu => exact hu
                | 4, _, hu => exact hu
                | 5, _, hu => exact hu
                | 6, _, hu => exact hu
                | 7, _, hu => exact hu
                | 8, _, hu => exact hu
                | 9, _, hu => exact hu
                | 10, _, hu => obtain ⟨g', h0, h1, h2⟩ := hu; exact ⟨g', h0, h1, (k5 _).cell h2 (fun e => by have h9 : g' = r := e; omega)⟩
                | 11, _, hu => exact (show ∀ z y, (StrRow w1 z (X ++ [t.extract i (kk)]) ∧ ∀ g, z.ownBlock = some g → (Value.slice wa X.length wc).ownBlock = some g ∨ wr.heap.size ≤ g) → (StrRow (w1.setCell ⟨r, 0, none⟩ y) z (X ++ [t.extract i (kk)]) ∧ ∀ g, z.ownBlock = some g → (Value.slice wa X.length wc).ownBlock = some g ∨ wr.heap.size ≤ g) from fun z y hz => ⟨Row.sav hz.1 (k5 y) (fun q e e2 => (hz.2 q e).elim (fun h => hn1 (by rw [h, show q = r from e2])) (fun h => by have h9 : q = r := e2; omega)), hz.2⟩) _ _ hu
                | 12, _, hu => exact hu
                | 13, _, hu => exact hu
                | 14, _, hu => exact hu
                | 15, _, hu => exact hu
                | 16, _, hu => exact hu
                | 17, _, hu => obtain ⟨g', h0, h1, h2⟩ := hu; exact ⟨g', h0, h1, (k5 _).cell h2 (fun e => by have h9 : g' = r := e; omega)⟩
                | 18, _, hu => exact (show ∀ z y, (IntRow w1 z (Y ++ [(i : Int)]) ∧ ∀ g, z.ownBlock = some g → (Value.slice pa Y.length pc).ownBlock = some g ∨ wr.heap.size ≤ g) → (IntRow (w1.setCell ⟨r, 0, none⟩ y) z (Y ++ [(i : Int)]) ∧ ∀ g, z.ownBlock = some g → (Value.slice pa Y.length pc).ownBlock = some g ∨ wr.heap.size ≤ g) from fun z y hz => ⟨Row.sav hz.1 (k5 y) (fun q e e2 => (hz.2 q e).elim (fun h => hn2 (by rw [h, show q = r from e2])) (fun h => by have h9 : q = r := e2; omega)), hz.2⟩) _ _ hu
                | 19, _, hu => exact hu
                | 20, _, hu => exact hu
                | 21, hj, _ => exact (hA.self hj).elim
                | j + 22, hj, _ => exact absurd (hA.low _ hj) (by omega)
              | q + 22, hk => exact absurd (show q + 22 < 22 from hk) (by omega)
            · intro vs w5 hI hv
              obtain ⟨e1, o1⟩ : StrRow w5 (vs 11) (X ++ [t.extract i (kk)]) ∧ ∀ g, (vs 11).ownBlock = some g → (Value.slice wa X.length wc).ownBlock = some g ∨ wr.heap.size ≤ g := hv 11 (by omega)
              obtain ⟨e2, o2⟩ : IntRow w5 (vs 18) (Y ++ [(i : Int)]) ∧ ∀ g, (vs 18).ownBlock = some g → (Value.slice pa Y.length pc).ownBlock = some g ∨ wr.heap.size ≤ g := hv 18 (by omega)
              have hc0 : w5.cell? ⟨r, 0, none⟩ = some (vs 11) := hv 21 (by omega)
              have v1 : vs 1 = .pointer (some ⟨r, 0, none⟩) := hv 1 (by omega)
              clear hv
              simp only [putN, List.drop_succ_cons, List.drop_zero, List.getElem?_cons_succ, List.getElem?_cons_zero, List.getElem?_nil]
              generalize vs 11 = z1 at *
              generalize vs 18 = z2 at *
              generalize vs 1 = y1 at *
              subst v1
              obtain ⟨ra, rc, er⟩ := Row.shape e1
              obtain ⟨sa, sc, es⟩ := Row.shape e2
              rw [show (X ++ [t.extract i (kk)]).length = X.length + 1 from by simp] at er
              rw [show (Y ++ [(i : Int)]).length = Y.length + 1 from by simp] at es
              subst er
              subst es
              have HT2 := Lib.hid (Tz.more HT.out hI hc0 (by rw [← HXY.out.1]; exact e1) (by rw [← HXY.out.2]; exact e2) o1 o2)
              have d1 := hI.k1
              have d3 := hI.fz 1
              clear hI hc0 e1 e2 o1 o2
              go_wp2
              go_roundw
              case rel => exact ⟨kk, _, _, _, HKI.out.2, rfl, HP2, HT2⟩
              case measure => have := HKI.out; simp [intOf]; omega
        · have hns : ¬ sepc (chr t i) := fun h => h.elim c1 c2
          have HNS := Lib.hid hns
          have hy1 := u8_ne (k := 32) (by decide) c1
          have hy2 := u8_ne (k := 40) (by decide) (fun e => c2 (.inl e))
          have hy3 := u8_ne (k := 41) (by decide) (fun e => c2 (.inr e))
          have hx := run_idx HIT.out
          generalize ((chr t i).toNat : Int) = x at hx hy1 hy2 hy3
          have y1 : ¬ x = 32 := hy1
          have y2 : ¬ x = 40 := hy2
          have y3 : ¬ x = 41 := hy3
          clear c1 c2 hns hy1 hy2 hy3
          obtain ⟨wo, hwo⟩ : ∃ u, u = wr := ⟨_, rfl⟩
          subst hwo
          go_wp2
          go_loopw [6] (fun s wi => ∃ k : Nat, i ≤ k ∧ k ≤ n ∧ s = .int .i64 (k : Int) ∧ Hid (wo = wi) ∧ Hid (∀ j, i ≤ j → j < k → ¬ sepc (chr t j))) (fun s _ => n - (intOf s).toNat)
          case atStart => exact ⟨i, Nat.le_refl _, hi, rfl, Lib.hid rfl, Lib.hid (fun j h1 h2 => by omega)⟩
          case round =>
            obtain ⟨k, hik, hkn, rfl, HW, HJ⟩ := hrel
            obtain rfl := HW.out
            have q0 : (0 : Int) ≤ (k : Int) := by omega
            by_cases hkl : k < n
            · have q1 : (k : Int) < (n : Int) := by omega
              have HKT : Hid (k < t.size) := Lib.hid (by rw [← HN.out]; exact hkl)
              by_cases hsp : sepc (chr t k)
              · have hne : k ≠ i := fun e => HNS.out (by rw [← e]; exact hsp)
                have HP2 : Hid (PI t k (L ++ [tk t i k])) := Lib.hid (HPI.out.word (by omega) (Nat.le_of_lt HKT.out) HJ.out (.inr hsp))
                have HIK : Hid (i ≤ k ∧ k ≤ t.size) := Lib.hid ⟨hik, Nat.le_of_lt HKT.out⟩
                have HKI : Hid (i < k ∧ k ≤ n) := Lib.hid ⟨by omega, hkn⟩
                obtain ⟨wa, wc, hwv⟩ := Row.shape HT.out.ws
                obtain ⟨pa, pc, hpv⟩ := Row.shape HT.out.ps
                subst hwv
                subst hpv
                obtain ⟨X, hX⟩ : ∃ X, X = L.map (·.1) := ⟨_, rfl⟩
                obtain ⟨Y, hY⟩ : ∃ Y, Y = L.map (·.2) := ⟨_, rfl⟩
                have HXY := Lib.hid (And.intro hX hY)
                rw [← hX, ← hY] at HT
                have HTC := Lib.hid (And.intro HT.out.c0 HT.out.c1)
                have HNR : Hid (¬ ((Value.slice wa X.length wc).ownBlock = some r ∨ (Value.slice pa Y.length pc).ownBlock = some r)) := Lib.hid (fun e => e.elim (fun e => (HT.out.ow r e).2 rfl) (fun e => (HT.out.op r e).2 rfl))
                have HRW : Hid (StrRow wo (.slice wa X.length wc) X ∧ IntRow wo (.slice pa Y.length pc) Y) := Lib.hid ⟨by rw [hX]; rw [hX] at HT; exact HT.out.ws, by rw [hY]; rw [hY] at HT; exact HT.out.ps⟩
                have HAP := Lib.hid HT.out.ap
                have HOW : Hid ((∀ g, (Value.slice wa X.length wc).ownBlock = some g → g < wo.heap.size) ∧ ∀ g, (Value.slice pa Y.length pc).ownBlock = some g → g < wo.heap.size) := Lib.hid ⟨fun g e => Row.lt HRW.out.1 e, fun g e => Row.lt HRW.out.2 e⟩
                have HFEW : Hid (X.length ≤ 999999 ∧ Y.length ≤ 999999) := Lib.hid (by have := (fold_few t i).1; rw [HPI.out.2] at this; rw [hX, hY, List.length_map, List.length_map]; omega)
                clear hX hY
                clear HJ HW hx
                rcases hsp with c1 | c1 | c1
                · have hx2 : ∀ w, Sem.run Tryz.prog (Instr.index 9 (.string t) (.int .i64 (k : Int))) w = .ok (.int .u8 32) w := fun w => by rw [run_idx HKT.out, c1]; rfl
                  clear c1
                  go_wp2
                  refine wp_region_l (n := 22) (RW wo r (n : Int) (.slice wa X.length wc) (.slice pa Y.length pc) X Y) 21 [Fv.of 0 (Fg.eq (.pointer (some ⟨r, 0, none⟩))), Fv.of 1 (Fg.eq (.pointer (some ⟨r, 0, none⟩))), Fv.of 2 (Fg.eq (.pointer (some ⟨r, 0, none⟩))), Fv.of 3 (Fg.eq (.pointer (some ⟨r, 0, none⟩))), Fv.of 4 (Fg.eq (.pointer (some ⟨r, 0, none⟩))), Fv.of 5 (Fg.eq (.slice wa X.length wc)), Fv.of 6 (Fg.eq (.string t)), Fv.of 7 (Fg.eq (.int .i64 (i : Int))), Fv.of 8 (Fg.eq (.int .i64 (k : Int))), Fv.of 9 (Fg.eq (.string (t.extract i (k)))), Fv.of 10 (Fg.newS wo.heap.size (t.extract i (k))), Fv.of 11 (Fg.rowS wo.heap.size (.slice wa X.length wc) (X ++ [t.extract i (k)])), Fv.of 12 (Fg.eq (.pointer (some ⟨r, 0, none⟩))), Fv.of 13 (Fg.eq (.pointer (some ⟨r, 0, none⟩))), Fv.of 14 (Fg.eq (.pointer (some ⟨r, 1, none⟩))), Fv.of 15 (Fg.eq (.slice pa Y.length pc)), Fv.of 16 (Fg.eq (.int .i64 (i : Int))), Fv.of 17 (Fg.newI wo.heap.size (i : Int)), Fv.of 18 (Fg.rowI wo.heap.size (.slice pa Y.length pc) (Y ++ [(i : Int)])), Fv.of 19 (Fg.eq (.pointer (some ⟨r, 0, none⟩))), Fv.of 20 (Fg.eq (.pointer (some ⟨r, 0, none⟩))), Fv.cell0 11 r] [58, 59, 60, 61, 62, 63, 64, 65, 66, 67, 68, 69, 70, 71, 72, 73, 74, 75, 76, 77, 78] ⟨.of_gr (Gr.refl wo).drew, Row.gr HRW.out.1 (Gr.refl wo).drew, Row.gr HRW.out.2 (Gr.refl wo).drew, fun _ => HT.out.c0, HT.out.c1, HT.out.c2, HT.out.c3, HT.out.fz⟩ (by decide) (by kernel_rfl) (by kernel_rfl) (by kernel_rfl) (by kernel_rfl) ?_ ?_
                  · intro L' q o a w1 hi ho hA
                    match q, hi with
                    | 0, _ =>
                      obtain rfl := Option.some.inj ho
                      exact lstep_val hA (by decide) (s_move rfl (show a.eval (.tmp 4) = .pointer (some ⟨r, 0, none⟩) from hA.other 4 (by decide))) (fun _ hf => hf)
                    | 1, _ =>
                      obtain rfl := Option.some.inj ho
                      exact lstep_val hA (by decide) (s_move rfl (show a.eval (.tmp 4) = .pointer (some ⟨r, 0, none⟩) from hA.other 4 (by decide))) (fun _ hf => hf)
                    | 2, _ =>
                      obtain rfl := Option.some.inj ho
                      exact lstep_val hA (by decide) (s_move rfl (show a.eval (.tmp 4) = .pointer (some ⟨r, 0, none⟩) from hA.other 4 (by decide))) (fun _ hf => hf)
                    | 3, _ =>
                      obtain rfl := Option.some.inj ho
                      exact lstep_val hA (by decide) (s_nil rfl (hA.fact 2 (hA.dep 2 (by kernel_rfl) (by decide)))) (fun _ hf => hf)
                    | 4, _ =>
                      obtain rfl := Option.some.inj ho
                      exact lstep_val hA (by decide) (s_fa0 rfl (hA.fact 3 (hA.dep 3 (by kernel_rfl) (by decide)))) (fun _ hf => hf)
                    | 5, _ =>
                      obtain rfl := Option.some.inj ho
                      have hI := hA.no (fun h => hA.self (hA.closed 11 5 (hA.closed 21 11 h (by kernel_rfl) (by decide)) (by kernel_rfl) (by decide)))
                      exact lstep_val hA (by decide) (s_loadS rfl (hA.fact 4 (hA.dep 4 (by kernel_rfl) (by decide))) (hI.k0 rfl)) (fun _ hf => hf)
                    | 6, _ =>
                      obtain rfl := Option.some.inj ho
                      exact lstep_val hA (by decide) (s_move rfl (show a.eval (.tmp 0) = .string t from hA.other 0 (by decide))) (fun _ hf => hf)
                    | 7, _ =>
                      obtain rfl := Option.some.inj ho
                      exact lstep_val hA (by decide) (s_move rfl (show a.eval (.tmp 5) = .int .i64 (i : Int) from hA.other 5 (by decide))) (fun _ hf => hf)
                    | 8, _ =>
                      obtain rfl := Option.some.inj ho
                      exact lstep_val hA (by decide) (s_move rfl (show a.eval (.tmp 6) = .int .i64 (k : Int) from hA.other 6 (by decide))) (fun _ hf => hf)
                    | 9, _ =>
                      obtain rfl := Option.some.inj ho
                      exact lstep_val hA (by decide) (s_sub rfl (hA.fact 6 (hA.dep 6 (by kernel_rfl) (by decide))) (hA.fact 7 (hA.dep 7 (by kernel_rfl) (by decide))) (hA.fact 8 (hA.dep 8 (by kernel_rfl) (by decide))) HIK.out.1 HIK.out.2) (fun _ hf => hf)
                    | 10, _ =>
                      obtain rfl := Option.some.inj ho
                      have hI := hA.no (fun h => hA.self (hA.closed 11 10 (hA.closed 21 11 h (by kernel_rfl) (by decide)) (by kernel_rfl) (by decide)))
                      exact lstep_new hA (by decide) (s_buildS rfl (hA.fact 9 (hA.dep 9 (by kernel_rfl) (by decide)))) ((Gr.refl _).alloc _) (fun b h => h.gr ((Gr.refl _).alloc _)) (fun f hf => ⟨_, hf, hI.sav.size, by simp⟩)
                    | 11, _ =>
                      obtain rfl := Option.some.inj ho
                      have hI := hA.no (fun h => hA.self (hA.closed 21 11 h (by kernel_rfl) (by decide)))
                      obtain ⟨g, hv, hge, hcg⟩ := (hA.fact 10 (hA.dep 10 (by kernel_rfl) (by decide)))
                      obtain ⟨v', w', hr, hrow, hgrow, hown, hold⟩ := hI.r1.app (g := g) (c := 1) hcg HFEW.out.1
                      have sv : Sav (fun g => (Value.slice wa X.length wc).ownBlock = some g) w1 w' := .of_grown hgrow fun _ h => h
                      have hnr : ¬ (Value.slice wa X.length wc).ownBlock = some r := fun e => HNR.out (.inl e)
                      have hown' : ∀ q, v'.ownBlock = some q → (Value.slice wa X.length wc).ownBlock = some q ∨ wo.heap.size ≤ q := fun q hq => (hown q hq).imp id (Nat.le_trans hI.sav.size)
                      refine lstep_keep hA (by decide) (s_app rfl (hA.fact 5 (hA.dep 5 (by kernel_rfl) (by decide))) hv hr) (fun b h => h.sv sv (fun q e => .inl e) hnr hold (Row.sav h.r2 sv (fun q e e2 => HAP.out q e2 e))) (fun f hf _ => ⟨by rw [show f 11 = v' from hf]; exact hrow, by rw [show f 11 = v' from hf]; exact hown'⟩) (fun j hj hu => ?_)
                      match j, hj, hu with
                      | 0, _, hu => exact hu
                      | 1, _, hu => exact hu
                      | 2, _, hu => exact hu
                      | 3, _, hu => exact hu
                      | 4, _, hu => exact hu
                      | 5, _, hu => exact hu
                      | 6, _, hu => exact hu
                      | 7, _, hu => exact hu
                      | 8, _, hu => exact hu
                      | 9, _, hu => exact hu
                      | 10, _, hu => obtain ⟨g', h0, h1, h2⟩ := hu; exact ⟨g', h0, h1, sv.cell h2 (fun e => by have := HOW.out.1 g' e; omega)⟩
                      | 11, hj, _ => exact (hA.self hj).elim
                      | 12, _, hu => exact hu
                      | 13, _, hu => exact hu
                      | 14, _, hu => exact hu
                      | 15, _, hu => exact hu
                      | 16, _, hu => exact hu
                      | 17, _, hu => obtain ⟨g', h0, h1, h2⟩ := hu; exact ⟨g', h0, h1, sv.cell h2 (fun e => by have := HOW.out.1 g' e; omega)⟩
                      | 18, _, hu => exact (show ∀ z, (IntRow w1 z (Y ++ [(i : Int)]) ∧ ∀ g, z.ownBlock = some g → (Value.slice pa Y.length pc).ownBlock = some g ∨ wo.heap.size ≤ g) → (IntRow w' z (Y ++ [(i : Int)]) ∧ ∀ g, z.ownBlock = some g → (Value.slice pa Y.length pc).ownBlock = some g ∨ wo.heap.size ≤ g) from fun z hz => ⟨Row.sav hz.1 sv (fun q e e2 => (hz.2 q e).elim (fun h => HAP.out q e2 h) (fun h => by have := HOW.out.1 q e2; omega)), hz.2⟩) _ hu
                      | 19, _, hu => exact hu
                      | 20, _, hu => exact hu
                      | 21, hj, _ => exact (hA.self (hA.closed 21 11 hj (by kernel_rfl) (by decide))).elim
                      | j + 22, hj, _ => exact absurd (hA.low _ hj) (by omega)
                    | 12, _ =>
                      obtain rfl := Option.some.inj ho
                      exact lstep_val hA (by decide) (s_move rfl (show a.eval (.tmp 4) = .pointer (some ⟨r, 0, none⟩) from hA.other 4 (by decide))) (fun _ hf => hf)
                    | 13, _ =>
                      obtain rfl := Option.some.inj ho
                      exact lstep_val hA (by decide) (s_nil rfl (hA.fact 12 (hA.dep 12 (by kernel_rfl) (by decide)))) (fun _ hf => hf)
                    | 14, _ =>
                      obtain rfl := Option.some.inj ho
                      exact lstep_val hA (by decide) (s_fa1 rfl (hA.fact 13 (hA.dep 13 (by kernel_rfl) (by decide)))) (fun _ hf => hf)
                    | 15, _ =>
                      obtain rfl := Option.some.inj ho
                      have hI := hA.no (fun h => hA.self (hA.closed 18 15 (hA.closed 21 18 h (by kernel_rfl) (by decide)) (by kernel_rfl) (by decide)))
                      exact lstep_val hA (by decide) (s_loadI rfl (hA.fact 14 (hA.dep 14 (by kernel_rfl) (by decide))) hI.k1) (fun _ hf => hf)
                    | 16, _ =>
                      obtain rfl := Option.some.inj ho
                      exact lstep_val hA (by decide) (s_move rfl (show a.eval (.tmp 5) = .int .i64 (i : Int) from hA.other 5 (by decide))) (fun _ hf => hf)
                    | 17, _ =>
                      obtain rfl := Option.some.inj ho
                      have hI := hA.no (fun h => hA.self (hA.closed 18 17 (hA.closed 21 18 h (by kernel_rfl) (by decide)) (by kernel_rfl) (by decide)))
                      exact lstep_new hA (by decide) (s_buildI rfl (hA.fact 16 (hA.dep 16 (by kernel_rfl) (by decide)))) ((Gr.refl _).alloc _) (fun b h => h.gr ((Gr.refl _).alloc _)) (fun f hf => ⟨_, hf, hI.sav.size, by simp⟩)
                    | 18, _ =>
                      obtain rfl := Option.some.inj ho
                      have hI := hA.no (fun h => hA.self (hA.closed 21 18 h (by kernel_rfl) (by decide)))
                      obtain ⟨g, hv, hge, hcg⟩ := (hA.fact 17 (hA.dep 17 (by kernel_rfl) (by decide)))
                      obtain ⟨v', w', hr, hrow, hgrow, hown, hold⟩ := hI.r2.app (g := g) (c := 1) hcg HFEW.out.2
                      have sv : Sav (fun g => (Value.slice pa Y.length pc).ownBlock = some g) w1 w' := .of_grown hgrow fun _ h => h
                      have hnr : ¬ (Value.slice pa Y.length pc).ownBlock = some r := fun e => HNR.out (.inr e)
                      have hown' : ∀ q, v'.ownBlock = some q → (Value.slice pa Y.length pc).ownBlock = some q ∨ wo.heap.size ≤ q := fun q hq => (hown q hq).imp id (Nat.le_trans hI.sav.size)
                      refine lstep_keep hA (by decide) (s_app rfl (hA.fact 15 (hA.dep 15 (by kernel_rfl) (by decide))) hv hr) (fun b h => h.sv sv (fun q e => .inr e) hnr (Row.sav h.r1 sv (fun q e e2 => HAP.out q e e2)) hold) (fun f hf _ => ⟨by rw [show f 18 = v' from hf]; exact hrow, by rw [show f 18 = v' from hf]; exact hown'⟩) (fun j hj hu => ?_)
                      match j, hj, hu with
                      | 0, _, hu => exact hu
                      | 1, _, hu => exact hu
                      | 2, _, hu => exact hu
                      | 3, _, hu => exact hu
                      | 4, _, hu => exact hu
                      | 5, _, hu => exact hu
                      | 6, _, hu => exact hu
                      | 7, _, hu => exact hu
                      | 8, _, hu => exact hu
                      | 9, _, hu => exact hu
                      | 10, _, hu => obtain ⟨g', h0, h1, h2⟩ := hu; exact ⟨g', h0, h1, sv.cell h2 (fun e => by have := HOW.out.2 g' e; omega)⟩
                      | 11, _, hu => exact (show ∀ z, (StrRow w1 z (X ++ [t.extract i (k)]) ∧ ∀ g, z.ownBlock = some g → (Value.slice wa X.length wc).ownBlock = some g ∨ wo.heap.size ≤ g) → (StrRow w' z (X ++ [t.extract i (k)]) ∧ ∀ g, z.ownBlock = some g → (Value.slice wa X.length wc).ownBlock = some g ∨ wo.heap.size ≤ g) from fun z hz => ⟨Row.sav hz.1 sv (fun q e e2 => (hz.2 q e).elim (fun h => HAP.out q h e2) (fun h => by have := HOW.out.2 q e2; omega)), hz.2⟩) _ hu
                      | 12, _, hu => exact hu
                      | 13, _, hu => exact hu
                      | 14, _, hu => exact hu
                      | 15, _, hu => exact hu
                      | 16, _, hu => exact hu
                      | 17, _, hu => obtain ⟨g', h0, h1, h2⟩ := hu; exact ⟨g', h0, h1, sv.cell h2 (fun e => by have := HOW.out.2 g' e; omega)⟩
                      | 18, hj, _ => exact (hA.self hj).elim
                      | 19, _, hu => exact hu
                      | 20, _, hu => exact hu
                      | 21, hj, _ => exact (hA.self (hA.closed 21 18 hj (by kernel_rfl) (by decide))).elim
                      | j + 22, hj, _ => exact absurd (hA.low _ hj) (by omega)
                    | 19, _ =>
                      obtain rfl := Option.some.inj ho
                      exact lstep_val hA (by decide) (s_nil rfl (hA.fact 0 (hA.dep 0 (by kernel_rfl) (by decide)))) (fun _ hf => hf)
                    | 20, _ =>
                      obtain rfl := Option.some.inj ho
                      exact lstep_val hA (by decide) (s_fa0 rfl (hA.fact 19 (hA.dep 19 (by kernel_rfl) (by decide)))) (fun _ hf => hf)
                    | 21, _ =>
                      obtain rfl := Option.some.inj ho
                      have hI := hA.no hA.self
                      have h11 : StrRow w1 (valOf _ a 11) (X ++ [t.extract i (k)]) ∧ ∀ g, (valOf _ a 11).ownBlock = some g → (Value.slice wa X.length wc).ownBlock = some g ∨ wo.heap.size ≤ g := hA.fact 11 (hA.dep 11 (by kernel_rfl) (by decide))
                      have hn1 : (Value.slice wa X.length wc).ownBlock ≠ some r := fun e => HNR.out (.inl e)
                      have hn2 : (Value.slice pa Y.length pc).ownBlock ≠ some r := fun e => HNR.out (.inr e)
                      have k5 : ∀ z, Sav (fun q => q = r) w1 (w1.setCell ⟨r, 0, none⟩ z) := fun z => .set r 0 z
                      have hrl : r < wo.heap.size := cell_lt HTC.out.1
                      obtain ⟨za, zc, hz⟩ := Row.shape h11.1
                      refine lstep_setc hA rfl rfl (s_storeS rfl (hA.fact 20 (hA.dep 20 (by kernel_rfl) (by decide))) rfl hz (hI.k0 rfl) (hI.fz 0)) (hI.set hn1 hn2 _) (fun f hL => ?_) (fun j hj hu => ?_)
                      · show (w1.setCell ⟨r, 0, none⟩ _).cell? ⟨r, 0, none⟩ = some (f 11)
                        rw [hL 11 (hA.dep 11 (by kernel_rfl) (by decide))]
                        exact World.cell?_setCell_same _ _ _ (hI.k0 rfl)
                      match j, hj, hu with
                      | 0, _, hu => exact hu
                      | 1, _, hu => exact hu
                      | 2, _, hu => exact hu
                      | 3, _, hu => exact hu
                      | 4, _, hu => exact hu
                      | 5, _, hu => exact hu
                      | 6, _, hu => exact hu
                      | 7, _, hu => exact hu
                      | 8, _, hu => exact hu
                      | 9, _, hu => exact hu
                      | 10, _, hu => obtain ⟨g', h0, h1, h2⟩ := hu; exact ⟨g', h0, h1, (k5 _).cell h2 (fun e => by have h9 : g' = r := e; omega)⟩
                      | 11, _, hu => exact (show ∀ z y, (StrRow w1 z (X ++ [t.extract i (k)]) ∧ ∀ g, z.ownBlock = some g → (Value.slice wa X.length wc).ownBlock = some g ∨ wo.heap.size ≤ g) → (StrRow (w1.setCell ⟨r, 0, none⟩ y) z (X ++ [t.extract i (k)]) ∧ ∀ g, z.ownBlock = some g → (Value.slice wa X.length wc).ownBlock = some g ∨ wo.heap.size ≤ g) from fun z y hz => ⟨Row.sav hz.1 (k5 y) (fun q e e2 => (hz.2 q e).elim (fun h => hn1 (by rw [h, show q = r from e2])) (fun h => by have h9 : q = r := e2; omega)), hz.2⟩) _ _ hu
                      | 12, _, hu => exact hu
                      | 13, _, hu => exact hu
                      | 14, _, hu => exact hu
                      | 15, _, hu => exact hu
                      | 16, _, hu => exact hu
                      | 17, _, hu => obtain ⟨g', h0, h1, h2⟩ := hu; exact ⟨g', h0, h1, (k5 _).cell h2 (fun e => by have h9 : g' = r := e; omega)⟩
                      | 18, _, hu => exact (show ∀ z y, (IntRow w1 z (Y ++ [(i : Int)]) ∧ ∀ g, z.ownBlock = some g → (Value.slice pa Y.length pc).ownBlock = some g ∨ wo.heap.size ≤ g) → (IntRow (w1.setCell ⟨r, 0, none⟩ y) z (Y ++ [(i : Int)]) ∧ ∀ g, z.ownBlock = some g → (Value.slice pa Y.length pc).ownBlock = some g ∨ wo.heap.size ≤ g) from fun z y hz => ⟨Row.sav hz.1 (k5 y) (fun q e e2 => (hz.2 q e).elim (fun h => hn2 (by rw [h, show q = r from e2])) (fun h => by have h9 : q = r := e2; omega)), hz.2⟩) _ _ hu
                      | 19, _, hu => exact hu
                      | 20, _, hu => exact hu
                      | 21, hj, _ => exact (hA.self hj).elim
                      | j + 22, hj, _ => exact absurd (hA.low _ hj) (by omega)
                    | q + 22, hk => exact absurd (show q + 22 < 22 from hk) (by omega)
                  · intro vs w5 hI hv
                    obtain ⟨e1, o1⟩ : StrRow w5 (vs 11) (X ++ [t.extract i (k)]) ∧ ∀ g, (vs 11).ownBlock = some g → (Value.slice wa X.length wc).ownBlock = some g ∨ wo.heap.size ≤ g := hv 11 (by omega)
                    obtain ⟨e2, o2⟩ : IntRow w5 (vs 18) (Y ++ [(i : Int)]) ∧ ∀ g, (vs 18).ownBlock = some g → (Value.slice pa Y.length pc).ownBlock = some g ∨ wo.heap.size ≤ g := hv 18 (by omega)
                    have hc0 : w5.cell? ⟨r, 0, none⟩ = some (vs 11) := hv 21 (by omega)
                    have v1 : vs 1 = .pointer (some ⟨r, 0, none⟩) := hv 1 (by omega)
                    clear hv
                    simp only [putN, List.drop_succ_cons, List.drop_zero, List.getElem?_cons_succ, List.getElem?_cons_zero, List.getElem?_nil]
                    generalize vs 11 = z1 at *
                    generalize vs 18 = z2 at *
                    generalize vs 1 = y1 at *
                    subst v1
                    obtain ⟨ra, rc, er⟩ := Row.shape e1
                    obtain ⟨sa, sc, es⟩ := Row.shape e2
                    rw [show (X ++ [t.extract i (k)]).length = X.length + 1 from by simp] at er
                    rw [show (Y ++ [(i : Int)]).length = Y.length + 1 from by simp] at es
                    subst er
                    subst es
                    have HT2 := Lib.hid (Tz.more HT.out hI hc0 (by rw [← HXY.out.1]; exact e1) (by rw [← HXY.out.2]; exact e2) o1 o2)
                    have d1 := hI.k1
                    have d3 := hI.fz 1
                    clear hI hc0 e1 e2 o1 o2
                    go_wp2
                    go_roundw
                    case rel => exact ⟨k, _, _, _, HKI.out.2, rfl, HP2, HT2⟩
                    case measure => have := HKI.out; simp [intOf]; omega
                · have hx2 : ∀ w, Sem.run Tryz.prog (Instr.index 9 (.string t) (.int .i64 (k : Int))) w = .ok (.int .u8 40) w := fun w => by rw [run_idx HKT.out, c1]; rfl
                  clear c1
                  go_wp2
                  refine wp_region_l (n := 22) (RW wo r (n : Int) (.slice wa X.length wc) (.slice pa Y.length pc) X Y) 21 [Fv.of 0 (Fg.eq (.pointer (some ⟨r, 0, none⟩))), Fv.of 1 (Fg.eq (.pointer (some ⟨r, 0, none⟩))), Fv.of 2 (Fg.eq (.pointer (some ⟨r, 0, none⟩))), Fv.of 3 (Fg.eq (.pointer (some ⟨r, 0, none⟩))), Fv.of 4 (Fg.eq (.pointer (some ⟨r, 0, none⟩))), Fv.of 5 (Fg.eq (.slice wa X.length wc)), Fv.of 6 (Fg.eq (.string t)), Fv.of 7 (Fg.eq (.int .i64 (i : Int))), Fv.of 8 (Fg.eq (.int .i64 (k : Int))), Fv.of 9 (Fg.eq (.string (t.extract i (k)))), Fv.of 10 (Fg.newS wo.heap.size (t.extract i (k))), Fv.of 11 (Fg.rowS wo.heap.size (.slice wa X.length wc) (X ++ [t.extract i (k)])), Fv.of 12 (Fg.eq (.pointer (some ⟨r, 0, none⟩))), Fv.of 13 (Fg.eq (.pointer (some ⟨r, 0, none⟩))), Fv.of 14 (Fg.eq (.pointer (some ⟨r, 1, none⟩))), Fv.of 15 (Fg.eq (.slice pa Y.length pc)), Fv.of 16 (Fg.eq (.int .i64 (i : Int))), Fv.of 17 (Fg.newI wo.heap.size (i : Int)), Fv.of 18 (Fg.rowI wo.heap.size (.slice pa Y.length pc) (Y ++ [(i : Int)])), Fv.of 19 (Fg.eq (.pointer (some ⟨r, 0, none⟩))), Fv.of 20 (Fg.eq (.pointer (some ⟨r, 0, none⟩))), Fv.cell0 11 r] [58, 59, 60, 61, 62, 63, 64, 65, 66, 67, 68, 69, 70, 71, 72, 73, 74, 75, 76, 77, 78] ⟨.of_gr (Gr.refl wo).drew, Row.gr HRW.out.1 (Gr.refl wo).drew, Row.gr HRW.out.2 (Gr.refl wo).drew, fun _ => HT.out.c0, HT.out.c1, HT.out.c2, HT.out.c3, HT.out.fz⟩ (by decide) (by kernel_rfl) (by kernel_rfl) (by kernel_rfl) (by kernel_rfl) ?_ ?_
                  · intro L' q o a w1 hi ho hA
                    match q, hi with
                    | 0, _ =>
                      obtain rfl := Option.some.inj ho
                      exact lstep_val hA (by decide) (s_move rfl (show a.eval (.tmp 4) = .pointer (some ⟨r, 0, none⟩) from hA.other 4 (by decide))) (fun _ hf => hf)
                    | 1, _ =>
                      obtain rfl := Option.some.inj ho
                      exact lstep_val hA (by decide) (s_move rfl (show a.eval (.tmp 4) = .pointer (some ⟨r, 0, none⟩) from hA.other 4 (by decide))) (fun _ hf => hf)
                    | 2, _ =>
                      obtain rfl := Option.some.inj ho
                      exact lstep_val hA (by decide) (s_move rfl (show a.eval (.tmp 4) = .pointer (some ⟨r, 0, none⟩) from hA.other 4 (by decide))) (fun _ hf => hf)
                    | 3, _ =>
                      obtain rfl := Option.some.inj ho
                      exact lstep_val hA (by decide) (s_nil rfl (hA.fact 2 (hA.dep 2 (by kernel_rfl) (by decide)))) (fun _ hf => hf)
                    | 4, _ =>
                      obtain rfl := Option.some.inj ho
                      exact lstep_val hA (by decide) (s_fa0 rfl (hA.fact 3 (hA.dep 3 (by kernel_rfl) (by decide)))) (fun _ hf => hf)
                    | 5, _ =>
                      obtain rfl := Option.some.inj ho
                      have hI := hA.no (fun h => hA.self (hA.closed 11 5 (hA.closed 21 11 h (by kernel_rfl) (by decide)) (by kernel_rfl) (by decide)))
                      exact lstep_val hA (by decide) (s_loadS rfl (hA.fact 4 (hA.dep 4 (by kernel_rfl) (by decide))) (hI.k0 rfl)) (fun _ hf => hf)
                    | 6, _ =>
                      obtain rfl := Option.some.inj ho
                      exact lstep_val hA (by decide) (s_move rfl (show a.eval (.tmp 0) = .string t from hA.other 0 (by decide))) (fun _ hf => hf)
                    | 7, _ =>
                      obtain rfl := Option.some.inj ho
                      exact lstep_val hA (by decide) (s_move rfl (show a.eval (.tmp 5) = .int .i64 (i : Int) from hA.other 5 (by decide))) (fun _ hf => hf)
                    | 8, _ =>
                      obtain rfl := Option.some.inj ho
                      exact lstep_val hA (by decide) (s_move rfl (show a.eval (.tmp 6) = .int .i64 (k : Int) from hA.other 6 (by decide))) (fun _ hf => hf)
                    | 9, _ =>
                      obtain rfl := Option.some.inj ho
                      exact lstep_val hA (by decide) (s_sub rfl (hA.fact 6 (hA.dep 6 (by kernel_rfl) (by decide))) (hA.fact 7 (hA.dep 7 (by kernel_rfl) (by decide))) (hA.fact 8 (hA.dep 8 (by kernel_rfl) (by decide))) HIK.out.1 HIK.out.2) (fun _ hf => hf)
                    | 10, _ =>
                      obtain rfl := Option.some.inj ho
                      have hI := hA.no (fun h => hA.self (hA.closed 11 10 (hA.closed 21 11 h (by kernel_rfl) (by decide)) (by kernel_rfl) (by decide)))
                      exact lstep_new hA (by decide) (s_buildS rfl (hA.fact 9 (hA.dep 9 (by kernel_rfl) (by decide)))) ((Gr.refl _).alloc _) (fun b h => h.gr ((Gr.refl _).alloc _)) (fun f hf => ⟨_, hf, hI.sav.size, by simp⟩)
                    | 11, _ =>
                      obtain rfl := Option.some.inj ho
                      have hI := hA.no (fun h => hA.self (hA.closed 21 11 h (by kernel_rfl) (by decide)))
                      obtain ⟨g, hv, hge, hcg⟩ := (hA.fact 10 (hA.dep 10 (by kernel_rfl) (by decide)))
                      obtain ⟨v', w', hr, hrow, hgrow, hown, hold⟩ := hI.r1.app (g := g) (c := 1) hcg HFEW.out.1
                      have sv : Sav (fun g => (Value.slice wa X.length wc).ownBlock = some g) w1 w' := .of_grown hgrow fun _ h => h
                      have hnr : ¬ (Value.slice wa X.length wc).ownBlock = some r := fun e => HNR.out (.inl e)
                      have hown' : ∀ q, v'.ownBlock = some q → (Value.slice wa X.length wc).ownBlock = some q ∨ wo.heap.size ≤ q := fun q hq => (hown q hq).imp id (Nat.le_trans hI.sav.size)
                      refine lstep_keep hA (by decide) (s_app rfl (hA.fact 5 (hA.dep 5 (by kernel_rfl) (by decide))) hv hr) (fun b h => h.sv sv (fun q e => .inl e) hnr hold (Row.sav h.r2 sv (fun q e e2 => HAP.out q e2 e))) (fun f hf _ => ⟨by rw [show f 11 = v' from hf]; exact hrow, by rw [show f 11 = v' from hf]; exact hown'⟩) (fun j hj hu => ?_)
                      match j, hj, hu with
                      | 0, _, hu => exact hu
                      | 1, _, hu => exact hu
                      | 2, _, hu => exact hu
                      | 3, _, hu => exact hu
                      | 4, _, hu => exact hu
                      | 5, _, hu => exact hu
                      | 6, _, hu => exact hu
                      | 7, _, hu => exact hu
                      | 8, _, hu => exact hu
                      | 9, _, hu => exact hu
                      | 10, _, hu => obtain ⟨g', h0, h1, h2⟩ := hu; exact ⟨g', h0, h1, sv.cell h2 (fun e => by have := HOW.out.1 g' e; omega)⟩
                      | 11, hj, _ => exact (hA.self hj).elim
                      | 12, _, hu => exact hu
                      | 13, _, hu => exact hu
                      | 14, _, hu => exact hu
                      | 15, _, hu => exact hu
                      | 16, _, hu => exact hu
                      | 17, _, hu => obtain ⟨g', h0, h1, h2⟩ := hu; exact ⟨g', h0, h1, sv.cell h2 (fun e => by have := HOW.out.1 g' e; omega)⟩
                      | 18, _, hu => exact (show ∀ z, (IntRow w1 z (Y ++ [(i : Int)]) ∧ ∀ g, z.ownBlock = some g → (Value.slice pa Y.length pc).ownBlock = some g ∨ wo.heap.size ≤ g) → (IntRow w' z (Y ++ [(i : Int)]) ∧ ∀ g, z.ownBlock = some g → (Value.slice pa Y.length pc).ownBlock = some g ∨ wo.heap.size ≤ g) from fun z hz => ⟨Row.sav hz.1 sv (fun q e e2 => (hz.2 q e).elim (fun h => HAP.out q e2 h) (fun h => by have := HOW.out.1 q e2; omega)), hz.2⟩) _ hu
                      | 19, _, hu => exact hu
                      | 20, _, hu => exact hu
                      | 21, hj, _ => exact (hA.self (hA.closed 21 11 hj (by kernel_rfl) (by decide))).elim
                      | j + 22, hj, _ => exact absurd (hA.low _ hj) (by omega)
                    | 12, _ =>
                      obtain rfl := Option.some.inj ho
                      exact lstep_val hA (by decide) (s_move rfl (show a.eval (.tmp 4) = .pointer (some ⟨r, 0, none⟩) from hA.other 4 (by decide))) (fun _ hf => hf)
                    | 13, _ =>
                      obtain rfl := Option.some.inj ho
                      exact lstep_val hA (by decide) (s_nil rfl (hA.fact 12 (hA.dep 12 (by kernel_rfl) (by decide)))) (fun _ hf => hf)
                    | 14, _ =>
                      obtain rfl := Option.some.inj ho
                      exact lstep_val hA (by decide) (s_fa1 rfl (hA.fact 13 (hA.dep 13 (by kernel_rfl) (by decide)))) (fun _ hf => hf)
                    | 15, _ =>
                      obtain rfl := Option.some.inj ho
                      have hI := hA.no (fun h => hA.self (hA.closed 18 15 (hA.closed 21 18 h (by kernel_rfl) (by decide)) (by kernel_rfl) (by decide)))
                      exact lstep_val hA (by decide) (s_loadI rfl (hA.fact 14 (hA.dep 14 (by kernel_rfl) (by decide))) hI.k1) (fun _ hf => hf)
                    | 16, _ =>
                      obtain rfl := Option.some.inj ho
                      exact lstep_val hA (by decide) (s_move rfl (show a.eval (.tmp 5) = .int .i64 (i : Int) from hA.other 5 (by decide))) (fun _ hf => hf)
                    | 17, _ =>
                      obtain rfl := Option.some.inj ho
                      have hI := hA.no (fun h => hA.self (hA.closed 18 17 (hA.closed 21 18 h (by kernel_rfl) (by decide)) (by kernel_rfl) (by decide)))
                      exact lstep_new hA (by decide) (s_buildI rfl (hA.fact 16 (hA.dep 16 (by kernel_rfl) (by decide)))) ((Gr.refl _).alloc _) (fun b h => h.gr ((Gr.refl _).alloc _)) (fun f hf => ⟨_, hf, hI.sav.size, by simp⟩)
                    | 18, _ =>
                      obtain rfl := Option.some.inj ho
                      have hI := hA.no (fun h => hA.self (hA.closed 21 18 h (by kernel_rfl) (by decide)))
                      obtain ⟨g, hv, hge, hcg⟩ := (hA.fact 17 (hA.dep 17 (by kernel_rfl) (by decide)))
                      obtain ⟨v', w', hr, hrow, hgrow, hown, hold⟩ := hI.r2.app (g := g) (c := 1) hcg HFEW.out.2
                      have sv : Sav (fun g => (Value.slice pa Y.length pc).ownBlock = some g) w1 w' := .of_grown hgrow fun _ h => h
                      have hnr : ¬ (Value.slice pa Y.length pc).ownBlock = some r := fun e => HNR.out (.inr e)
                      have hown' : ∀ q, v'.ownBlock = some q → (Value.slice pa Y.length pc).ownBlock = some q ∨ wo.heap.size ≤ q := fun q hq => (hown q hq).imp id (Nat.le_trans hI.sav.size)
                      refine lstep_keep hA (by decide) (s_app rfl (hA.fact 15 (hA.dep 15 (by kernel_rfl) (by decide))) hv hr) (fun b h => h.sv sv (fun q e => .inr e) hnr (Row.sav h.r1 sv (fun q e e2 => HAP.out q e e2)) hold) (fun f hf _ => ⟨by rw [show f 18 = v' from hf]; exact hrow, by rw [show f 18 = v' from hf]; exact hown'⟩) (fun j hj hu => ?_)
                      match j, hj, hu with
                      | 0, _, hu => exact hu
                      | 1, _, hu => exact hu
                      | 2, _, hu => exact hu
                      | 3, _, hu => exact hu
                      | 4, _, hu => exact hu
                      | 5, _, hu => exact hu
                      | 6, _, hu => exact hu
                      | 7, _, hu => exact hu
                      | 8, _, hu => exact hu
                      | 9, _, hu => exact hu
                      | 10, _, hu => obtain ⟨g', h0, h1, h2⟩ := hu; exact ⟨g', h0, h1, sv.cell h2 (fun e => by have := HOW.out.2 g' e; omega)⟩
                      | 11, _, hu => exact (show ∀ z, (StrRow w1 z (X ++ [t.extract i (k)]) ∧ ∀ g, z.ownBlock = some g → (Value.slice wa X.length wc).ownBlock = some g ∨ wo.heap.size ≤ g) → (StrRow w' z (X ++ [t.extract i (k)]) ∧ ∀ g, z.ownBlock = some g → (Value.slice wa X.length wc).ownBlock = some g ∨ wo.heap.size ≤ g) from fun z hz => ⟨Row.sav hz.1 sv (fun q e e2 => (hz.2 q e).elim (fun h => HAP.out q h e2) (fun h => by have := HOW.out.2 q e2; omega)), hz.2⟩) _ hu
                      | 12, _, hu => exact hu
                      | 13, _, hu => exact hu
                      | 14, _, hu => exact hu
                      | 15, _, hu => exact hu
                      | 16, _, hu => exact hu
                      | 17, _, hu => obtain ⟨g', h0, h1, h2⟩ := hu; exact ⟨g', h0, h1, sv.cell h2 (fun e => by have := HOW.out.2 g' e; omega)⟩
                      | 18, hj, _ => exact (hA.self hj).elim
                      | 19, _, hu => exact hu
                      | 20, _, hu => exact hu
                      | 21, hj, _ => exact (hA.self (hA.closed 21 18 hj (by kernel_rfl) (by decide))).elim
                      | j + 22, hj, _ => exact absurd (hA.low _ hj) (by omega)
                    | 19, _ =>
                      obtain rfl := Option.some.inj ho
                      exact lstep_val hA (by decide) (s_nil rfl (hA.fact 0 (hA.dep 0 (by kernel_rfl) (by decide)))) (fun _ hf => hf)
                    | 20, _ =>
                      obtain rfl := Option.some.inj ho
                      exact lstep_val hA (by decide) (s_fa0 rfl (hA.fact 19 (hA.dep 19 (by kernel_rfl) (by decide)))) (fun _ hf => hf)
                    | 21, _ =>
                      obtain rfl := Option.some.inj ho
                      have hI := hA.no hA.self
                      have h11 : StrRow w1 (valOf _ a 11) (X ++ [t.extract i (k)]) ∧ ∀ g, (valOf _ a 11).ownBlock = some g → (Value.slice wa X.length wc).ownBlock = some g ∨ wo.heap.size ≤ g := hA.fact 11 (hA.dep 11 (by kernel_rfl) (by decide))
                      have hn1 : (Value.slice wa X.length wc).ownBlock ≠ some r := fun e => HNR.out (.inl e)
                      have hn2 : (Value.slice pa Y.length pc).ownBlock ≠ some r := fun e => HNR.out (.inr e)
                      have k5 : ∀ z, Sav (fun q => q = r) w1 (w1.setCell ⟨r, 0, none⟩ z) := fun z => .set r 0 z
                      have hrl : r < wo.heap.size := cell_lt HTC.out.1
                      obtain ⟨za, zc, hz⟩ := Row.shape h11.1
                      refine lstep_setc hA rfl rfl (s_storeS rfl (hA.fact 20 (hA.dep 20 (by kernel_rfl) (by decide))) rfl hz (hI.k0 rfl) (hI.fz 0)) (hI.set hn1 hn2 _) (fun f hL => ?_) (fun j hj hu => ?_)
                      · show (w1.setCell ⟨r, 0, none⟩ _).cell? ⟨r, 0, none⟩ = some (f 11)
                        rw [hL 11 (hA.dep 11 (by kernel_rfl) (by decide))]
                        exact World.cell?_setCell_same _ _ _ (hI.k0 rfl)
                      match j, hj, hu with
                      | 0, _, hu => exact hu
                      | 1, _, hu => exact hu
                      | 2, _, hu => exact hu
                      | 3, _, hu => exact hu
                      | 4, _, hu => exact hu
                      | 5, _, hu => exact hu
                      | 6, _, hu => exact hu
                      | 7, _, hu => exact hu
                      | 8, _, hu => exact hu
                      | 9, _, hu => exact hu
                      | 10, _, hu => obtain ⟨g', h0, h1, h2⟩ := hu; exact ⟨g', h0, h1, (k5 _).cell h2 (fun e => by have h9 : g' = r := e; omega)⟩
                      | 11, _, hu => exact (show ∀ z y, (StrRow w1 z (X ++ [t.extract i (k)]) ∧ ∀ g, z.ownBlock = some g → (Value.slice wa X.length wc).ownBlock = some g ∨ wo.heap.size ≤ g) → (StrRow (w1.setCell ⟨r, 0, none⟩ y) z (X ++ [t.extract i (k)]) ∧ ∀ g, z.ownBlock = some g → (Value.slice wa X.length wc).ownBlock = some g ∨ wo.heap.size ≤ g) from fun z y hz => ⟨Row.sav hz.1 (k5 y) (fun q e e2 => (hz.2 q e).elim (fun h => hn1 (by rw [h, show q = r from e2])) (fun h => by have h9 : q = r := e2; omega)), hz.2⟩) _ _ hu
                      | 12, _, hu => exact hu
                      | 13, _, hu => exact hu
                      | 14, _, hu => exact hu
                      | 15, _, hu => exact hu
                      | 16, _, hu => exact hu
                      | 17, _, hu => obtain ⟨g', h0, h1, h2⟩ := hu; exact ⟨g', h0, h1, (k5 _).cell h2 (fun e => by have h9 : g' = r := e; omega)⟩
                      | 18, _, hu => exact (show ∀ z y, (IntRow w1 z (Y ++ [(i : Int)]) ∧ ∀ g, z.ownBlock = some g → (Value.slice pa Y.length pc).ownBlock = some g ∨ wo.heap.size ≤ g) → (IntRow (w1.setCell ⟨r, 0, none⟩ y) z (Y ++ [(i : Int)]) ∧ ∀ g, z.ownBlock = some g → (Value.slice pa Y.length pc).ownBlock = some g ∨ wo.heap.size ≤ g) from fun z y hz => ⟨Row.sav hz.1 (k5 y) (fun q e e2 => (hz.2 q e).elim (fun h => hn2 (by rw [h, show q = r from e2])) (fun h => by have h9 : q = r := e2; omega)), hz.2⟩) _ _ hu
                      | 19, _, hu => exact hu
                      | 20, _, hu => exact hu
                      | 21, hj, _ => exact (hA.self hj).elim
                      | j + 22, hj, _ => exact absurd (hA.low _ hj) (by omega)
                    | q + 22, hk => exact absurd (show q + 22 < 22 from hk) (by omega)
                  · intro vs w5 hI hv
                    obtain ⟨e1, o1⟩ : StrRow w5 (vs 11) (X ++ [t.extract i (k)]) ∧ ∀ g, (vs 11).ownBlock = some g → (Value.slice wa X.length wc).ownBlock = some g ∨ wo.heap.size ≤ g := hv 11 (by omega)
                    obtain ⟨e2, o2⟩ : IntRow w5 (vs 18) (Y ++ [(i : Int)]) ∧ ∀ g, (vs 18).ownBlock = some g → (Value.slice pa Y.length pc).ownBlock = some g ∨ wo.heap.size ≤ g := hv 18 (by omega)
                    have hc0 : w5.cell? ⟨r, 0, none⟩ = some (vs 11) := hv 21 (by omega)
                    have v1 : vs 1 = .pointer (some ⟨r, 0, none⟩) := hv 1 (by omega)
                    clear hv
                    simp only [putN, List.drop_succ_cons, List.drop_zero, List.getElem?_cons_succ, List.getElem?_cons_zero, List.getElem?_nil]
                    generalize vs 11 = z1 at *
                    generalize vs 18 = z2 at *
                    generalize vs 1 = y1 at *
                    subst v1
                    obtain ⟨ra, rc, er⟩ := Row.shape e1
                    obtain ⟨sa, sc, es⟩ := Row.shape e2
                    rw [show (X ++ [t.extract i (k)]).length = X.length + 1 from by simp] at er
                    rw [show (Y ++ [(i : Int)]).length = Y.length + 1 from by simp] at es
                    subst er
                    subst es
                    have HT2 := Lib.hid (Tz.more HT.out hI hc0 (by rw [← HXY.out.1]; exact e1) (by rw [← HXY.out.2]; exact e2) o1 o2)
                    have d1 := hI.k1
                    have d3 := hI.fz 1
                    clear hI hc0 e1 e2 o1 o2
                    go_wp2
                    go_roundw
                    case rel => exact ⟨k, _, _, _, HKI.out.2, rfl, HP2, HT2⟩
                    case measure => have := HKI.out; simp [intOf]; omega
                · have hx2 : ∀ w, Sem.run Tryz.prog (Instr.index 9 (.string t) (.int .i64 (k : Int))) w = .ok (.int .u8 41) w := fun w => by rw [run_idx HKT.out, c1]; rfl
                  clear c1
                  go_wp2
                  refine wp_region_l (n := 22) (RW wo r (n : Int) (.slice wa X.length wc) (.slice pa Y.length pc) X Y) 21 [Fv.of 0 (Fg.eq (.pointer (some ⟨r, 0, none⟩))), Fv.of 1 (Fg.eq (.pointer (some ⟨r, 0, none⟩))), Fv.of 2 (Fg.eq (.pointer (some ⟨r, 0, none⟩))), Fv.of 3 (Fg.eq (.pointer (some ⟨r, 0, none⟩))), Fv.of 4 (Fg.eq (.pointer (some ⟨r, 0, none⟩))), Fv.of 5 (Fg.eq (.slice wa X.length wc)), Fv.of 6 (Fg.eq (.string t)), Fv.of 7 (Fg.eq (.int .i64 (i : Int))), Fv.of 8 (Fg.eq (.int .i64 (k : Int))), Fv.of 9 (Fg.eq (.string (t.extract i (k)))), Fv.of 10 (Fg.newS wo.heap.size (t.extract i (k))), Fv.of 11 (Fg.rowS wo.heap.size (.slice wa X.length wc) (X ++ [t.extract i (k)])), Fv.of 12 (Fg.eq (.pointer (some ⟨r, 0, none⟩))), Fv.of 13 (Fg.eq (.pointer (some ⟨r, 0, none⟩))), Fv.of 14 (Fg.eq (.pointer (some ⟨r, 1, none⟩))), Fv.of 15 (Fg.eq (.slice pa Y.length pc)), Fv.of 16 (Fg.eq (.int .i64 (i : Int))), Fv.of 17 (Fg.newI wo.heap.size (i : Int)), Fv.of 18 (Fg.rowI wo.heap.size (.slice pa Y.length pc) (Y ++ [(i : Int)])), Fv.of 19 (Fg.eq (.pointer (some ⟨r, 0, none⟩))), Fv.of 20 (Fg.eq (.pointer (some ⟨r, 0, none⟩))), Fv.cell0 11 r] [58, 59, 60, 61, 62, 63, 64, 65, 66, 67, 68, 69, 70, 71, 72, 73, 74, 75, 76, 77, 78] ⟨.of_gr (Gr.refl wo).drew, Row.gr HRW.out.1 (Gr.refl wo).drew, Row.gr HRW.out.2 (Gr.refl wo).drew, fun _ => HT.out.c0, HT.out.c1, HT.out.c2, HT.out.c3, HT.out.fz⟩ (by decide) (by kernel_rfl) (by kernel_rfl) (by kernel_rfl) (by kernel_rfl) ?_ ?_
                  · intro L' q o a w1 hi ho hA
                    match q, hi with
                    | 0, _ =>
                      obtain rfl := Option.some.inj ho
                      exact lstep_val hA (by decide) (s_move rfl (show a.eval (.tmp 4) = .pointer (some ⟨r, 0, none⟩) from hA.other 4 (by decide))) (fun _ hf => hf)
                    | 1, _ =>
                      obtain rfl := Option.some.inj ho
                      exact lstep_val hA (by decide) (s_move rfl (show a.eval (.tmp 4) = .pointer (some ⟨r, 0, none⟩) from hA.other 4 (by decide))) (fun _ hf => hf)
                    | 2, _ =>
                      obtain rfl := Option.some.inj ho
                      exact lstep_val hA (by decide) (s_move rfl (show a.eval (.tmp 4) = .pointer (some ⟨r, 0, none⟩) from hA.other 4 (by decide))) (fun _ hf => hf)
                    | 3, _ =>
                      obtain rfl := Option.some.inj ho
                      exact lstep_val hA (by decide) (s_nil rfl (hA.fact 2 (hA.dep 2 (by kernel_rfl) (by decide)))) (fun _ hf => hf)
                    | 4, _ =>
                      obtain rfl := Option.some.inj ho
                      exact lstep_val hA (by decide) (s_fa0 rfl (hA.fact 3 (hA.dep 3 (by kernel_rfl) (by decide)))) (fun _ hf => hf)
                    | 5, _ =>
                      obtain rfl := Option.some.inj ho
                      have hI := hA.no (fun h => hA.self (hA.closed 11 5 (hA.closed 21 11 h (by kernel_rfl) (by decide)) (by kernel_rfl) (by decide)))
                      exact lstep_val hA (by decide) (s_loadS rfl (hA.fact 4 (hA.dep 4 (by kernel_rfl) (by decide))) (hI.k0 rfl)) (fun _ hf => hf)
                    | 6, _ =>
                      obtain rfl := Option.some.inj ho
                      exact lstep_val hA (by decide) (s_move rfl (show a.eval (.tmp 0) = .string t from hA.other 0 (by decide))) (fun _ hf => hf)
                    | 7, _ =>
                      obtain rfl := Option.some.inj ho
                      exact lstep_val hA (by decide) (s_move rfl (show a.eval (.tmp 5) = .int .i64 (i : Int) from hA.other 5 (by decide))) (fun _ hf => hf)
                    | 8, _ =>
                      obtain rfl := Option.some.inj ho
                      exact lstep_val hA (by decide) (s_move rfl (show a.eval (.tmp 6) = .int .i64 (k : Int) from hA.other 6 (by decide))) (fun _ hf => hf)
                    | 9, _ =>
                      obtain rfl := Option.some.inj ho
                      exact lstep_val hA (by decide) (s_sub rfl (hA.fact 6 (hA.dep 6 (by kernel_rfl) (by decide))) (hA.fact 7 (hA.dep 7 (by kernel_rfl) (by decide))) (hA.fact 8 (hA.dep 8 (by kernel_rfl) (by decide))) HIK.out.1 HIK.out.2) (fun _ hf => hf)
                    | 10, _ =>
                      obtain rfl := Option.some.inj ho
                      have hI := hA.no (fun h => hA.self (hA.closed 11 10 (hA.closed 21 11 h (by kernel_rfl) (by decide)) (by kernel_rfl) (by decide)))
                      exact lstep_new hA (by decide) (s_buildS rfl (hA.fact 9 (hA.dep 9 (by kernel_rfl) (by decide)))) ((Gr.refl _).alloc _) (fun b h => h.gr ((Gr.refl _).alloc _)) (fun f hf => ⟨_, hf, hI.sav.size, by simp⟩)
                    | 11, _ =>
                      obtain rfl := Option.some.inj ho
                      have hI := hA.no (fun h => hA.self (hA.closed 21 11 h (by kernel_rfl) (by decide)))
                      obtain ⟨g, hv, hge, hcg⟩ := (hA.fact 10 (hA.dep 10 (by kernel_rfl) (by decide)))
                      obtain ⟨v', w', hr, hrow, hgrow, hown, hold⟩ := hI.r1.app (g := g) (c := 1) hcg HFEW.out.1
                      have sv : Sav (fun g => (Value.slice wa X.length wc).ownBlock = some g) w1 w' := .of_grown hgrow fun _ h => h
                      have hnr : ¬ (Value.slice wa X.length wc).ownBlock = some r := fun e => HNR.out (.inl e)
                      have hown' : ∀ q, v'.ownBlock = some q → (Value.slice wa X.length wc).ownBlock = some q ∨ wo.heap.size ≤ q := fun q hq => (hown q hq).imp id (Nat.le_trans hI.sav.size)
                      refine lstep_keep hA (by decide) (s_app rfl (hA.fact 5 (hA.dep 5 (by kernel_rfl) (by decide))) hv hr) (fun b h => h.sv sv (fun q e => .inl e) hnr hold (Row.sav h.r2 sv (fun q e e2 => HAP.out q e2 e))) (fun f hf _ => ⟨by rw [show f 11 = v' from hf]; exact hrow, by rw [show f 11 = v' from hf]; exact hown'⟩) (fun j hj hu => ?_)
                      match j, hj, hu with
                      | 0, _, hu => exact hu
                      | 1, _, hu => exact hu
                      | 2, _, hu => exact hu
                      | 3, _, hu => exact hu
                      | 4, _, hu => exact hu
                      | 5, _, hu => exact hu
                      | 6, _, hu => exact hu
                      | 7, _, hu => exact hu
                      | 8, _, hu => exact hu
                      | 9, _, hu => exact hu
                      | 10, _, hu => obtain ⟨g', h0, h1, h2⟩ := hu; exact ⟨g', h0, h1, sv.cell h2 (fun e => by have := HOW.out.1 g' e; omega)⟩
                      | 11, hj, _ => exact (hA.self hj).elim
                      | 12, _, hu => exact hu
                      | 13, _, hu => exact hu
                      | 14, _, hu => exact hu
                      | 15, _, hu => exact hu
                      | 16, _, hu => exact hu
                      | 17, _, hu => obtain ⟨g', h0, h1, h2⟩ := hu; exact ⟨g', h0, h1, sv.cell h2 (fun e => by have := HOW.out.1 g' e; omega)⟩
                      | 18, _, hu => exact (show ∀ z, (IntRow w1 z (Y ++ [(i : Int)]) ∧ ∀ g, z.ownBlock = some g → (Value.slice pa Y.length pc).ownBlock = some g ∨ wo.heap.size ≤ g) → (IntRow w' z (Y ++ [(i : Int)]) ∧ ∀ g, z.ownBlock = some g → (Value.slice pa Y.length pc).ownBlock = some g ∨ wo.heap.size ≤ g) from fun z hz => ⟨Row.sav hz.1 sv (fun q e e2 => (hz.2 q e).elim (fun h => HAP.out q e2 h) (fun h => by have := HOW.out.1 q e2; omega)), hz.2⟩) _ hu
                      | 19, _, hu => exact hu
                      | 20, _, hu => exact hu
                      | 21, hj, _ => exact (hA.self (hA.closed 21 11 hj (by kernel_rfl) (by decide))).elim
                      | j + 22, hj, _ => exact absurd (hA.low _ hj) (by omega)
                    | 12, _ =>
                      obtain rfl := Option.some.inj ho
                      exact lstep_val hA (by decide) (s_move rfl (show a.eval (.tmp 4) = .pointer (some ⟨r, 0, none⟩) from hA.other 4 (by decide))) (fun _ hf => hf)
                    | 13, _ =>
                      obtain rfl := Option.some.inj ho
                      exact lstep_val hA (by decide) (s_nil rfl (hA.fact 12 (hA.dep 12 (by kernel_rfl) (by decide)))) (fun _ hf => hf)
                    | 14, _ =>
                      obtain rfl := Option.some.inj ho
                      exact lstep_val hA (by decide) (s_fa1 rfl (hA.fact 13 (hA.dep 13 (by kernel_rfl) (by decide)))) (fun _ hf => hf)
                    | 15, _ =>
                      obtain rfl := Option.some.inj ho
                      have hI := hA.no (fun h => hA.self (hA.closed 18 15 (hA.closed 21 18 h (by kernel_rfl) (by decide)) (by kernel_rfl) (by decide)))
                      exact lstep_val hA (by decide) (s_loadI rfl (hA.fact 14 (hA.dep 14 (by kernel_rfl) (by decide))) hI.k1) (fun _ hf => hf)
                    | 16, _ =>
                      obtain rfl := Option.some.inj ho
                      exact lstep_val hA (by decide) (s_move rfl (show a.eval (.tmp 5) = .int .i64 (i : Int) from hA.other 5 (by decide))) (fun _ hf => hf)
                    | 17, _ =>
                      obtain rfl := Option.some.inj ho
                      have hI := hA.no (fun h => hA.self (hA.closed 18 17 (hA.closed 21 18 h (by kernel_rfl) (by decide)) (by kernel_rfl) (by decide)))
                      exact lstep_new hA (by decide) (s_buildI rfl (hA.fact 16 (hA.dep 16 (by kernel_rfl) (by decide)))) ((Gr.refl _).alloc _) (fun b h => h.gr ((Gr.refl _).alloc _)) (fun f hf => ⟨_, hf, hI.sav.size, by simp⟩)
                    | 18, _ =>
                      obtain rfl := Option.some.inj ho
                      have hI := hA.no (fun h => hA.self (hA.closed 21 18 h (by kernel_rfl) (by decide)))
                      obtain ⟨g, hv, hge, hcg⟩ := (hA.fact 17 (hA.dep 17 (by kernel_rfl) (by decide)))
                      obtain ⟨v', w', hr, hrow, hgrow, hown, hold⟩ := hI.r2.app (g := g) (c := 1) hcg HFEW.out.2
                      have sv : Sav (fun g => (Value.slice pa Y.length pc).ownBlock = some g) w1 w' := .of_grown hgrow fun _ h => h
                      have hnr : ¬ (Value.slice pa Y.length pc).ownBlock = some r := fun e => HNR.out (.inr e)
                      have hown' : ∀ q, v'.ownBlock = some q → (Value.slice pa Y.length pc).ownBlock = some q ∨ wo.heap.size ≤ q := fun q hq => (hown q hq).imp id (Nat.le_trans hI.sav.size)
                      refine lstep_keep hA (by decide) (s_app rfl (hA.fact 15 (hA.dep 15 (by kernel_rfl) (by decide))) hv hr) (fun b h => h.sv sv (fun q e => .inr e) hnr (Row.sav h.r1 sv (fun q e e2 => HAP.out q e e2)) hold) (fun f hf _ => ⟨by rw [show f 18 = v' from hf]; exact hrow, by rw [show f 18 = v' from hf]; exact hown'⟩) (fun j hj hu => ?_)
                      match j, hj, hu with
                      | 0, _, hu => exact hu
                      | 1, _, hu => exact hu
                      | 2, _, hu => exact hu
                      | 3, _, hu => exact hu
                      | 4, _, hu => exact hu
                      | 5, _, hu => exact hu
                      | 6, _, hu => exact hu
                      | 7, _, hu => exact hu
                      | 8, _, hu => exact hu
                      | 9, _, hu => exact hu
                      | 10, _, hu => obtain ⟨g', h0, h1, h2⟩ := hu; exact ⟨g', h0, h1, sv.cell h2 (fun e => by have := HOW.out.2 g' e; omega)⟩
                      | 11, _, hu => exact (show ∀ z, (StrRow w1 z (X ++ [t.extract i (k)]) ∧ ∀ g, z.ownBlock = some g → (Value.slice wa X.length wc).ownBlock = some g ∨ wo.heap.size ≤ g) → (StrRow w' z (X ++ [t.extract i (k)]) ∧ ∀ g, z.ownBlock = some g → (Value.slice wa X.length wc).ownBlock = some g ∨ wo.heap.size ≤ g) from fun z hz => ⟨Row.sav hz.1 sv (fun q e e2 => (hz.2 q e).elim (fun h => HAP.out q h e2) (fun h => by have := HOW.out.2 q e2; omega)), hz.2⟩) _ hu
                      | 12, _, hu => exact hu
                      | 13, _, hu => exact hu
                      | 14, _, hu => exact hu
                      | 15, _, hu => exact hu
                      | 16, _, hu => exact hu
                      | 17, _, hu => obtain ⟨g', h0, h1, h2⟩ := hu; exact ⟨g', h0, h1, sv.cell h2 (fun e => by have := HOW.out.2 g' e; omega)⟩
                      | 18, hj, _ => exact (hA.self hj).elim
                      | 19, _, hu => exact hu
                      | 20, _, hu => exact hu
                      | 21, hj, _ => exact (hA.self (hA.closed 21 18 hj (by kernel_rfl) (by decide))).elim
                      | j + 22, hj, _ => exact absurd (hA.low _ hj) (by omega)
                    | 19, _ =>
                      obtain rfl := Option.some.inj ho
                      exact lstep_val hA (by decide) (s_nil rfl (hA.fact 0 (hA.dep 0 (by kernel_rfl) (by decide)))) (fun _ hf => hf)
                    | 20, _ =>
                      obtain rfl := Option.some.inj ho
                      exact lstep_val hA (by decide) (s_fa0 rfl (hA.fact 19 (hA.dep 19 (by kernel_rfl) (by decide)))) (fun _ hf => hf)
                    | 21, _ =>
                      obtain rfl := Option.some.inj ho
                      have hI := hA.no hA.self
                      have h11 : StrRow w1 (valOf _ a 11) (X ++ [t.extract i (k)]) ∧ ∀ g, (valOf _ a 11).ownBlock = some g → (Value.slice wa X.length wc).ownBlock = some g ∨ wo.heap.size ≤ g := hA.fact 11 (hA.dep 11 (by kernel_rfl) (by decide))
                      have hn1 : (Value.slice wa X.length wc).ownBlock ≠ some r := fun e => HNR.out (.inl e)
                      have hn2 : (Value.slice pa Y.length pc).ownBlock ≠ some r := fun e => HNR.out (.inr e)
                      have k5 : ∀ z, Sav (fun q => q = r) w1 (w1.setCell ⟨r, 0, none⟩ z) := fun z => .set r 0 z
                      have hrl : r < wo.heap.size := cell_lt HTC.out.1
                      obtain ⟨za, zc, hz⟩ := Row.shape h11.1
                      refine lstep_setc hA rfl rfl (s_storeS rfl (hA.fact 20 (hA.dep 20 (by kernel_rfl) (by decide))) rfl hz (hI.k0 rfl) (hI.fz 0)) (hI.set hn1 hn2 _) (fun f hL => ?_) (fun j hj hu => ?_)
                      · show (w1.setCell ⟨r, 0, none⟩ _).cell? ⟨r, 0, none⟩ = some (f 11)
                        rw [hL 11 (hA.dep 11 (by kernel_rfl) (by decide))]
                        exact World.cell?_setCell_same _ _ _ (hI.k0 rfl)
                      match j, hj, hu with
                      | 0, _, hu => exact hu
                      | 1, _, hu => exact hu
                      | 2, _, hu => exact hu
                      | 3, _, hu => exact hu
                      | 4, _, hu => exact hu
                      | 5, _, hu => exact hu
                      | 6, _, hu => exact hu
                      | 7, _, hu => exact hu
                      | 8, _, hu => exact hu
                      | 9, _, hu => exact hu
                      | 10, _, hu => obtain ⟨g', h0, h1, h2⟩ := hu; exact ⟨g', h0, h1, (k5 _).cell h2 (fun e => by have h9 : g' = r := e; omega)⟩
                      | 11, _, hu => exact (show ∀ z y, (StrRow w1 z (X ++ [t.extract i (k)]) ∧ ∀ g, z.ownBlock = some g → (Value.slice wa X.length wc).ownBlock = some g ∨ wo.heap.size ≤ g) → (StrRow (w1.setCell ⟨r, 0, none⟩ y) z (X ++ [t.extract i (k)]) ∧ ∀ g, z.ownBlock = some g → (Value.slice wa X.length wc).ownBlock = some g ∨ wo.heap.size ≤ g) from fun z y hz => ⟨Row.sav hz.1 (k5 y) (fun q e e2 => (hz.2 q e).elim (fun h => hn1 (by rw [h, show q = r from e2])) (fun h => by have h9 : q = r := e2; omega)), hz.2⟩) _ _ hu
                      | 12, _, hu => exact hu
                      | 13, _, hu => exact hu
                      | 14, _, hu => exact hu
                      | 15, _, hu => exact hu
                      | 16, _, hu => exact hu
                      | 17, _, hu => obtain ⟨g', h0, h1, h2⟩ := hu; exact ⟨g', h0, h1, (k5 _).cell h2 (fun e => by have h9 : g' = r := e; omega)⟩
                      | 18, _, hu => exact (show ∀ z y, (IntRow w1 z (Y ++ [(i : Int)]) ∧ ∀ g, z.ownBlock = some g → (Value.slice pa Y.length pc).ownBlock = some g ∨ wo.heap.size ≤ g) → (IntRow (w1.setCell ⟨r, 0, none⟩ y) z (Y ++ [(i : Int)]) ∧ ∀ g, z.ownBlock = some g → (Value.slice pa Y.length pc).ownBlock = some g ∨ wo.heap.size ≤ g) from fun z y hz => ⟨Row.sav hz.1 (k5 y) (fun q e e2 => (hz.2 q e).elim (fun h => hn2 (by rw [h, show q = r from e2])) (fun h => by have h9 : q = r := e2; omega)), hz.2⟩) _ _ hu
                      | 19, _, hu => exact hu
                      | 20, _, hu => exact hu
                      | 21, hj, _ => exact (hA.self hj).elim
                      | j + 22, hj, _ => exact absurd (hA.low _ hj) (by omega)
                    | q + 22, hk => exact absurd (show q + 22 < 22 from hk) (by omega)
                  · intro vs w5 hI hv
                    obtain ⟨e1, o1⟩ : StrRow w5 (vs 11) (X ++ [t.extract i (k)]) ∧ ∀ g, (vs 11).ownBlock = some g → (Value.slice wa X.length wc).ownBlock = some g ∨ wo.heap.size ≤ g := hv 11 (by omega)
                    obtain ⟨e2, o2⟩ : IntRow w5 (vs 18) (Y ++ [(i : Int)]) ∧ ∀ g, (vs 18).ownBlock = some g → (Value.slice pa Y.length pc).ownBlock = some g ∨ wo.heap.size ≤ g := hv 18 (by omega)
                    have hc0 : w5.cell? ⟨r, 0, none⟩ = some (vs 11) := hv 21 (by omega)
                    have v1 : vs 1 = .pointer (some ⟨r, 0, none⟩) := hv 1 (by omega)
                    clear hv
                    simp only [putN, List.drop_succ_cons, List.drop_zero, List.getElem?_cons_succ, List.getElem?_cons_zero, List.getElem?_nil]
                    generalize vs 11 = z1 at *
                    generalize vs 18 = z2 at *
                    generalize vs 1 = y1 at *
                    subst v1
                    obtain ⟨ra, rc, er⟩ := Row.shape e1
                    obtain ⟨sa, sc, es⟩ := Row.shape e2
                    rw [show (X ++ [t.extract i (k)]).length = X.length + 1 from by simp] at er
                    rw [show (Y ++ [(i : Int)]).length = Y.length + 1 from by simp] at es
                    subst er
                    subst es
                    have HT2 := Lib.hid (Tz.more HT.out hI hc0 (by rw [← HXY.out.1]; exact e1) (by rw [← HXY.out.2]; exact e2) o1 o2)
                    have d1 := hI.k1
                    have d3 := hI.fz 1
                    clear hI hc0 e1 e2 o1 o2
                    go_wp2
                    go_roundw
                    case rel => exact ⟨k, _, _, _, HKI.out.2, rfl, HP2, HT2⟩
                    case measure => have := HKI.out; simp [intOf]; omega
              · have HJ2 : Hid (∀ j, i ≤ j → j < k + 1 → ¬ sepc (chr t j)) := Lib.hid (fun j h1 h2 => by
                  by_cases e : j = k
                  · subst e; exact hsp
                  · exact HJ.out j h1 (by omega))
                have z1 := u8_ne (k := 32) (by decide) (fun e => hsp (.inl e))
                have z2 := u8_ne (k := 40) (by decide) (fun e => hsp (.inr (.inl e)))
                have z3 := u8_ne (k := 41) (by decide) (fun e => hsp (.inr (.inr e)))
                have hx2 := run_idx HKT.out
                generalize ((chr t k).toNat : Int) = x2 at hx2 z1 z2 z3
                have z4 : ¬ x2 = 32 := z1
                have z5 : ¬ x2 = 40 := z2
                have z6 : ¬ x2 = 41 := z3
                clear z1 z2 z3 hsp HJ
                go_wp2
                go_roundw
                case rel => exact ⟨k + 1, by omega, by omega, by go_num, Lib.hid trivial, HJ2⟩
                case measure => simp [intOf]; omega
            · obtain rfl : k = n := by omega
              have HP2 : Hid (PI t k (L ++ [tk t i k])) := Lib.hid (HPI.out.word hlt (by rw [← HN.out]; exact Nat.le_refl _) HJ.out (.inl HN.out))
              have HIK : Hid (i ≤ k ∧ k ≤ t.size) := Lib.hid ⟨hik, by rw [← HN.out]; exact Nat.le_refl _⟩
              have HKI : Hid (i < k ∧ k ≤ k) := Lib.hid ⟨hlt, Nat.le_refl _⟩
              obtain ⟨wa, wc, hwv⟩ := Row.shape HT.out.ws
              obtain ⟨pa, pc, hpv⟩ := Row.shape HT.out.ps
              subst hwv
              subst hpv
              obtain ⟨X, hX⟩ : ∃ X, X = L.map (·.1) := ⟨_, rfl⟩
              obtain ⟨Y, hY⟩ : ∃ Y, Y = L.map (·.2) := ⟨_, rfl⟩
              have HXY := Lib.hid (And.intro hX hY)
              rw [← hX, ← hY] at HT
              have HTC := Lib.hid (And.intro HT.out.c0 HT.out.c1)
              have HNR : Hid (¬ ((Value.slice wa X.length wc).ownBlock = some r ∨ (Value.slice pa Y.length pc).ownBlock = some r)) := Lib.hid (fun e => e.elim (fun e => (HT.out.ow r e).2 rfl) (fun e => (HT.out.op r e).2 rfl))
              have HRW : Hid (StrRow wo (.slice wa X.length wc) X ∧ IntRow wo (.slice pa Y.length pc) Y) := Lib.hid ⟨by rw [hX]; rw [hX] at HT; exact HT.out.ws, by rw [hY]; rw [hY] at HT; exact HT.out.ps⟩
              have HAP := Lib.hid HT.out.ap
              have HOW : Hid ((∀ g, (Value.slice wa X.length wc).ownBlock = some g → g < wo.heap.size) ∧ ∀ g, (Value.slice pa Y.length pc).ownBlock = some g → g < wo.heap.size) := Lib.hid ⟨fun g e => Row.lt HRW.out.1 e, fun g e => Row.lt HRW.out.2 e⟩
              have HFEW : Hid (X.length ≤ 999999 ∧ Y.length ≤ 999999) := Lib.hid (by have := (fold_few t i).1; rw [HPI.out.2] at this; rw [hX, hY, List.length_map, List.length_map]; omega)
              clear hX hY
              clear HJ HW hx
              go_wp2
              refine wp_region_l (n := 22) (RW wo r (k : Int) (.slice wa X.length wc) (.slice pa Y.length pc) X Y) 21 [Fv.of 0 (Fg.eq (.pointer (some ⟨r, 0, none⟩))), Fv.of 1 (Fg.eq (.pointer (some ⟨r, 0, none⟩))), Fv.of 2 (Fg.eq (.pointer (some ⟨r, 0, none⟩))), Fv.of 3 (Fg.eq (.pointer (some ⟨r, 0, none⟩))), Fv.of 4 (Fg.eq (.pointer (some ⟨r, 0, none⟩))), Fv.of 5 (Fg.eq (.slice wa X.length wc)), Fv.of 6 (Fg.eq (.string t)), Fv.of 7 (Fg.eq (.int .i64 (i : Int))), Fv.of 8 (Fg.eq (.int .i64 (k : Int))), Fv.of 9 (Fg.eq (.string (t.extract i (k)))), Fv.of 10 (Fg.newS wo.heap.size (t.extract i (k))), Fv.of 11 (Fg.rowS wo.heap.size (.slice wa X.length wc) (X ++ [t.extract i (k)])), Fv.of 12 (Fg.eq (.pointer (some ⟨r, 0, none⟩))), Fv.of 13 (Fg.eq (.pointer (some ⟨r, 0, none⟩))), Fv.of 14 (Fg.eq (.pointer (some ⟨r, 1, none⟩))), Fv.of 15 (Fg.eq (.slice pa Y.length pc)), Fv.of 16 (Fg.eq (.int .i64 (i : Int))), Fv.of 17 (Fg.newI wo.heap.size (i : Int)), Fv.of 18 (Fg.rowI wo.heap.size (.slice pa Y.length pc) (Y ++ [(i : Int)])), Fv.of 19 (Fg.eq (.pointer (some ⟨r, 0, none⟩))), Fv.of 20 (Fg.eq (.pointer (some ⟨r, 0, none⟩))), Fv.cell0 11 r] [58, 59, 60, 61, 62, 63, 64, 65, 66, 67, 68, 69, 70, 71, 72, 73, 74, 75, 76, 77, 78] ⟨.of_gr (Gr.refl wo).drew, Row.gr HRW.out.1 (Gr.refl wo).drew, Row.gr HRW.out.2 (Gr.refl wo).drew, fun _ => HT.out.c0, HT.out.c1, HT.out.c2, HT.out.c3, HT.out.fz⟩ (by decide) (by kernel_rfl) (by kernel_rfl) (by kernel_rfl) (by kernel_rfl) ?_ ?_
              · intro L' q o a w1 hi ho hA
                match q, hi with
                | 0, _ =>
                  obtain rfl := Option.some.inj ho
                  exact lstep_val hA (by decide) (s_move rfl (show a.eval (.tmp 4) = .pointer (some ⟨r, 0, none⟩) from hA.other 4 (by decide))) (fun _ hf => hf)
                | 1, _ =>
                  obtain rfl := Option.some.inj ho
                  exact lstep_val hA (by decide) (s_move rfl (show a.eval (.tmp 4) = .pointer (some ⟨r, 0, none⟩) from hA.other 4 (by decide))) (fun _ hf => hf)
                | 2, _ =>
                  obtain rfl := Option.some.inj ho
                  exact lstep_val hA (by decide) (s_move rfl (show a.eval (.tmp 4) = .pointer (some ⟨r, 0, none⟩) from hA.other 4 (by decide))) (fun _ hf => hf)
                | 3, _ =>
                  obtain rfl := Option.some.inj ho
                  exact lstep_val hA (by decide) (s_nil rfl (hA.fact 2 (hA.dep 2 (by kernel_rfl) (by decide)))) (fun _ hf => hf)
                | 4, _ =>
                  obtain rfl := Option.some.inj ho
                  exact lstep_val hA (by decide) (s_fa0 rfl (hA.fact 3 (hA.dep 3 (by kernel_rfl) (by decide)))) (fun _ hf => hf)
                | 5, _ =>
                  obtain rfl := Option.some.inj ho
                  have hI := hA.no (fun h => hA.self (hA.closed 11 5 (hA.closed 21 11 h (by kernel_rfl) (by decide)) (by kernel_rfl) (by decide)))
                  exact lstep_val hA (by decide) (s_loadS rfl (hA.fact 4 (hA.dep 4 (by kernel_rfl) (by decide))) (hI.k0 rfl)) (fun _ hf => hf)
                | 6, _ =>
                  obtain rfl := Option.some.inj ho
                  exact lstep_val hA (by decide) (s_move rfl (show a.eval (.tmp 0) = .string t from hA.other 0 (by decide))) (fun _ hf => hf)
                | 7, _ =>
                  obtain rfl := Option.some.inj ho
                  exact lstep_val hA (by decide) (s_move rfl (show a.eval (.tmp 5) = .int .i64 (i : Int) from hA.other 5 (by decide))) (fun _ hf => hf)
                | 8, _ =>
                  obtain rfl := Option.some.inj ho
                  exact lstep_val hA (by decide) (s_move rfl (show a.eval (.tmp 6) = .int .i64 (k : Int) from hA.other 6 (by decide))) (fun _ hf => hf)
                | 9, _ =>
                  obtain rfl := Option.some.inj ho
                  exact lstep_val hA (by decide) (s_sub rfl (hA.fact 6 (hA.dep 6 (by kernel_rfl) (by decide))) (hA.fact 7 (hA.dep 7 (by kernel_rfl) (by decide))) (hA.fact 8 (hA.dep 8 (by kernel_rfl) (by decide))) HIK.out.1 HIK.out.2) (fun _ hf => hf)
                | 10, _ =>
                  obtain rfl := Option.some.inj ho
                  have hI := hA.no (fun h => hA.self (hA.closed 11 10 (hA.closed 21 11 h (by kernel_rfl) (by decide)) (by kernel_rfl) (by decide)))
                  exact lstep_new hA (by decide) (s_buildS rfl (hA.fact 9 (hA.dep 9 (by kernel_rfl) (by decide)))) ((Gr.refl _).alloc _) (fun b h => h.gr ((Gr.refl _).alloc _)) (fun f hf => ⟨_, hf, hI.sav.size, by simp⟩)
                | 11, _ =>
                  obtain rfl := Option.some.inj ho
                  have hI := hA.no (fun h => hA.self (hA.closed 21 11 h (by kernel_rfl) (by decide)))
                  obtain ⟨g, hv, hge, hcg⟩ := (hA.fact 10 (hA.dep 10 (by kernel_rfl) (by decide)))
                  obtain ⟨v', w', hr, hrow, hgrow, hown, hold⟩ := hI.r1.app (g := g) (c := 1) hcg HFEW.out.1
                  have sv : Sav (fun g => (Value.slice wa X.length wc).ownBlock = some g) w1 w' := .of_grown hgrow fun _ h => h
                  have hnr : ¬ (Value.slice wa X.length wc).ownBlock = some r := fun e => HNR.out (.inl e)
                  have hown' : ∀ q, v'.ownBlock = some q → (Value.slice wa X.length wc).ownBlock = some q ∨ wo.heap.size ≤ q := fun q hq => (hown q hq).imp id (Nat.le_trans hI.sav.size)
                  refine lstep_keep hA (by decide) (s_app rfl (hA.fact 5 (hA.dep 5 (by kernel_rfl) (by decide))) hv hr) (fun b h => h.sv sv (fun q e => .inl e) hnr hold (Row.sav h.r2 sv (fun q e e2 => HAP.out q e2 e))) (fun f hf _ => ⟨by rw [show f 11 = v' from hf]; exact hrow, by rw [show f 11 = v' from hf]; exact hown'⟩) (fun j hj hu => ?_)
                  match j, hj, hu with
                  | 0, _, hu => exact hu
                  | 1, _, hu => exact hu
                  | 2, _, hu => exact hu
                  | 3, _, hu => exact hu
                  | 4, _, hu => exact hu
                  | 5, _, hu => exact hu
                  | 6, _, hu => exact hu
                  | 7, _, hu => exact hu
                  | 8, _, hu => exact hu
                  | 9, _, hu => exact hu
                  | 10, _, hu => obtain ⟨g', h0, h1, h2⟩ := hu; exact ⟨g', h0, h1, sv.cell h2 (fun e => by have := HOW.out.1 g' e; omega)⟩
                  | 11, hj, _ => exact (hA.self hj).elim
                  | 12, _, hu => exact hu
                  | 13, _, hu => exact hu
                  | 14, _, hu => exact hu
                  | 15, _, hu => exact hu
                  | 16, _, hu => exact hu
                  | 17, _, hu => obtain ⟨g', h0, h1, h2⟩ := hu; exact ⟨g', h0, h1, sv.cell h2 (fun e => by have := HOW.out.1 g' e; omega)⟩
                  | 18, _, hu => exact (show ∀ z, (IntRow w1 z (Y ++ [(i : Int)]) ∧ ∀ g, z.ownBlock = some g → (Value.slice pa Y.length pc).ownBlock = some g ∨ wo.heap.size ≤ g) → (IntRow w' z (Y ++ [(i : Int)]) ∧ ∀ g, z.ownBlock = some g → (Value.slice pa Y.length pc).ownBlock = some g ∨ wo.heap.size ≤ g) from fun z hz => ⟨Row.sav hz.1 sv (fun q e e2 => (hz.2 q e).elim (fun h => HAP.out q e2 h) (fun h => by have := HOW.out.1 q e2; omega)), hz.2⟩) _ hu
                  | 19, _, hu => exact hu
                  | 20, _, hu => exact hu
                  | 21, hj, _ => exact (hA.self (hA.closed 21 11 hj (by kernel_rfl) (by decide))).elim
                  | j + 22, hj, _ => exact absurd (hA.low _ hj) (by omega)
                | 12, _ =>
                  obtain rfl := Option.some.inj ho
                  exact lstep_val hA (by decide) (s_move rfl (show a.eval (.tmp 4) = .pointer (some ⟨r, 0, none⟩) from hA.other 4 (by decide))) (fun _ hf => hf)
                | 13, _ =>
                  obtain rfl := Option.some.inj ho
                  exact lstep_val hA (by decide) (s_nil rfl (hA.fact 12 (hA.dep 12 (by kernel_rfl) (by decide)))) (fun _ hf => hf)
                | 14, _ =>
                  obtain rfl := Option.some.inj ho
                  exact lstep_val hA (by decide) (s_fa1 rfl (hA.fact 13 (hA.dep 13 (by kernel_rfl) (by decide)))) (fun _ hf => hf)
                | 15, _ =>
                  obtain rfl := Option.some.inj ho
                  have hI := hA.no (fun h => hA.self (hA.closed 18 15 (hA.closed 21 18 h (by kernel_rfl) (by decide)) (by kernel_rfl) (by decide)))
                  exact lstep_val hA (by decide) (s_loadI rfl (hA.fact 14 (hA.dep 14 (by kernel_rfl) (by decide))) hI.k1) (fun _ hf => hf)
                | 16, _ =>
                  obtain rfl := Option.some.inj ho
                  exact lstep_val hA (by decide) (s_move rfl (show a.eval (.tmp 5) = .int .i64 (i : Int) from hA.other 5 (by decide))) (fun _ hf => hf)
                | 17, _ =>
                  obtain rfl := Option.some.inj ho
                  have hI := hA.no (fun h => hA.self (hA.closed 18 17 (hA.closed 21 18 h (by kernel_rfl) (by decide)) (by kernel_rfl) (by decide)))
                  exact lstep_new hA (by decide) (s_buildI rfl (hA.fact 16 (hA.dep 16 (by kernel_rfl) (by decide)))) ((Gr.refl _).alloc _) (fun b h => h.gr ((Gr.refl _).alloc _)) (fun f hf => ⟨_, hf, hI.sav.size, by simp⟩)
                | 18, _ =>
                  obtain rfl := Option.some.inj ho
                  have hI := hA.no (fun h => hA.self (hA.closed 21 18 h (by kernel_rfl) (by decide)))
                  obtain ⟨g, hv, hge, hcg⟩ := (hA.fact 17 (hA.dep 17 (by kernel_rfl) (by decide)))
                  obtain ⟨v', w', hr, hrow, hgrow, hown, hold⟩ := hI.r2.app (g := g) (c := 1) hcg HFEW.out.2
                  have sv : Sav (fun g => (Value.slice pa Y.length pc).ownBlock = some g) w1 w' := .of_grown hgrow fun _ h => h
                  have hnr : ¬ (Value.slice pa Y.length pc).ownBlock = some r := fun e => HNR.out (.inr e)
                  have hown' : ∀ q, v'.ownBlock = some q → (Value.slice pa Y.length pc).ownBlock = some q ∨ wo.heap.size ≤ q := fun q hq => (hown q hq).imp id (Nat.le_trans hI.sav.size)
                  refine lstep_keep hA (by decide) (s_app rfl (hA.fact 15 (hA.dep 15 (by kernel_rfl) (by decide))) hv hr) (fun b h => h.sv sv (fun q e => .inr e) hnr (Row.sav h.r1 sv (fun q e e2 => HAP.out q e e2)) hold) (fun f hf _ => ⟨by rw [show f 18 = v' from hf]; exact hrow, by rw [show f 18 = v' from hf]; exact hown'⟩) (fun j hj hu => ?_)
                  match j, hj, hu with
                  | 0, _, hu => exact hu
                  | 1, _, hu => exact hu
                  | 2, _, hu => exact hu
                  | 3, _, hu => exact hu
                  | 4, _, hu => exact hu
                  | 5, _, hu => exact hu
                  | 6, _, hu => exact hu
                  | 7, _, hu => exact hu
                  | 8, _, hu => exact hu
                  | 9, _, hu => exact hu
                  | 10, _, hu => obtain ⟨g', h0, h1, h2⟩ := hu; exact ⟨g', h0, h1, sv.cell h2 (fun e => by have := HOW.out.2 g' e; omega)⟩
                  | 11, _, hu => exact (show ∀ z, (StrRow w1 z (X ++ [t.extract i (k)]) ∧ ∀ g, z.ownBlock = some g → (Value.slice wa X.length wc).ownBlock = some g ∨ wo.heap.size ≤ g) → (StrRow w' z (X ++ [t.extract i (k)]) ∧ ∀ g, z.ownBlock = some g → (Value.slice wa X.length wc).ownBlock = some g ∨ wo.heap.size ≤ g) from fun z hz => ⟨Row.sav hz.1 sv (fun q e e2 => (hz.2 q e).elim (fun h => HAP.out q h e2) (fun h => by have := HOW.out.2 q e2; omega)), hz.2⟩) _ hu
                  | 12, _, hu => exact hu
                  | 13, _, hu => exact hu
                  | 14, _, hu => exact hu
                  | 15, _, hu => exact hu
                  | 16, _, hu => exact hu
                  | 17, _, hu => obtain ⟨g', h0, h1, h2⟩ := hu; exact ⟨g', h0, h1, sv.cell h2 (fun e => by have := HOW.out.2 g' e; omega)⟩
                  | 18, hj, _ => exact (hA.self hj).elim
                  | 19, _, hu => exact hu
                  | 20, _, hu => exact hu
                  | 21, hj, _ => exact (hA.self (hA.closed 21 18 hj (by kernel_rfl) (by decide))).elim
                  | j + 22, hj, _ => exact absurd (hA.low _ hj) (by omega)
                | 19, _ =>
                  obtain rfl := Option.some.inj ho
                  exact lstep_val hA (by decide) (s_nil rfl (hA.fact 0 (hA.dep 0 (by kernel_rfl) (by decide)))) (fun _ hf => hf)
                | 20, _ =>
                  obtain rfl := Option.some.inj ho
                  exact lstep_val hA (by decide) (s_fa0 rfl (hA.fact 19 (hA.dep 19 (by kernel_rfl) (by decide)))) (fun _ hf => hf)
                | 21, _ =>
                  obtain rfl := Option.some.inj ho
                  have hI := hA.no hA.self
                  have h11 : StrRow w1 (valOf _ a 11) (X ++ [t.extract i (k)]) ∧ ∀ g, (valOf _ a 11).ownBlock = some g → (Value.slice wa X.length wc).ownBlock = some g ∨ wo.heap.size ≤ g := hA.fact 11 (hA.dep 11 (by kernel_rfl) (by decide))
                  have hn1 : (Value.slice wa X.length wc).ownBlock ≠ some r := fun e => HNR.out (.inl e)
                  have hn2 : (Value.slice pa Y.length pc).ownBlock ≠ some r := fun e => HNR.out (.inr e)
                  have k5 : ∀ z, Sav (fun q => q = r) w1 (w1.setCell ⟨r, 0, none⟩ z) := fun z => .set r 0 z
                  have hrl : r < wo.heap.size := cell_lt HTC.out.1
                  obtain ⟨za, zc, hz⟩ := Row.shape h11.1
                  refine lstep_setc hA rfl rfl (s_storeS rfl (hA.fact 20 (hA.dep 20 (by kernel_rfl) (by decide))) rfl hz (hI.k0 rfl) (hI.fz 0)) (hI.set hn1 hn2 _) (fun f hL => ?_) (fun j hj hu => ?_)
                  · show (w1.setCell ⟨r, 0, none⟩ _).cell? ⟨r, 0, none⟩ = some (f 11)
                    rw [hL 11 (hA.dep 11 (by kernel_rfl) (by decide))]
                    exact World.cell?_setCell_same _ _ _ (hI.k0 rfl)
                  match j, hj, hu with
                  | 0, _, hu => exact hu
                  | 1, _, hu => exact hu
                  | 2, _, hu => exact hu
                  | 3, _, hu => exact hu
                  | 4, _, hu => exact hu
                  | 5, _, hu => exact hu
                  | 6, _, hu => exact hu
                  | 7, _, hu => exact hu
                  | 8, _, hu => exact hu
                  | 9, _, hu => exact hu
                  | 10, _, hu => obtain ⟨g', h0, h1, h2⟩ := hu; exact ⟨g', h0, h1, (k5 _).cell h2 (fun e => by have h9 : g' = r := e; omega)⟩
                  | 11, _, hu => exact (show ∀ z y, (StrRow w1 z (X ++ [t.extract i (k)]) ∧ ∀ g, z.ownBlock = some g → (Value.slice wa X.length wc).ownBlock = some g ∨ wo.heap.size ≤ g) → (StrRow (w1.setCell ⟨r, 0, none⟩ y) z (X ++ [t.extract i (k)]) ∧ ∀ g, z.ownBlock = some g → (Value.slice wa X.length wc).ownBlock = some g ∨ wo.heap.size ≤ g) from fun z y hz => ⟨Row.sav hz.1 (k5 y) (fun q e e2 => (hz.2 q e).elim (fun h => hn1 (by rw [h, show q = r from e2])) (fun h => by have h9 : q = r := e2; omega)), hz.2⟩) _ _ hu
                  | 12, _, hu => exact hu
                  | 13, _, hu => exact hu
                  | 14, _, hu => exact hu
                  | 15, _, hu => exact hu
                  | 16, _, hu => exact hu
                  | 17, _, hu => obtain ⟨g', h0, h1, h2⟩ := hu; exact ⟨g', h0, h1, (k5 _).cell h2 (fun e => by have h9 : g' = r := e; omega)⟩
                  | 18, _, hu => exact (show ∀ z y, (IntRow w1 z (Y ++ [(i : Int)]) ∧ ∀ g, z.ownBlock = some g → (Value.slice pa Y.length pc).ownBlock = some g ∨ wo.heap.size ≤ g) → (IntRow (w1.setCell ⟨r, 0, none⟩ y) z (Y ++ [(i : Int)]) ∧ ∀ g, z.ownBlock = some g → (Value.slice pa Y.length pc).ownBlock = some g ∨ wo.heap.size ≤ g) from fun z y hz => ⟨Row.sav hz.1 (k5 y) (fun q e e2 => (hz.2 q e).elim (fun h => hn2 (by rw [h, show q = r from e2])) (fun h => by have h9 : q = r := e2; omega)), hz.2⟩) _ _ hu
                  | 19, _, hu => exact hu
                  | 20, _, hu => exact hu
                  | 21, hj, _ => exact (hA.self hj).elim
                  | j + 22, hj, _ => exact absurd (hA.low _ hj) (by omega)
                | q + 22, hk => exact absurd (show q + 22 < 22 from hk) (by omega)
              · intro vs w5 hI hv
                obtain ⟨e1, o1⟩ : StrRow w5 (vs 11) (X ++ [t.extract i (k)]) ∧ ∀ g, (vs 11).ownBlock = some g → (Value.slice wa X.length wc).ownBlock = some g ∨ wo.heap.size ≤ g := hv 11 (by omega)
                obtain ⟨e2, o2⟩ : IntRow w5 (vs 18) (Y ++ [(i : Int)]) ∧ ∀ g, (vs 18).ownBlock = some g → (Value.slice pa Y.length pc).ownBlock = some g ∨ wo.heap.size ≤ g := hv 18 (by omega)
                have hc0 : w5.cell? ⟨r, 0, none⟩ = some (vs 11) := hv 21 (by omega)
                have v1 : vs 1 = .pointer (some ⟨r, 0, none⟩) := hv 1 (by omega)
                clear hv
                simp only [putN, List.drop_succ_cons, List.drop_zero, List.getElem?_cons_succ, List.getElem?_cons_zero, List.getElem?_nil]
                generalize vs 11 = z1 at *
                generalize vs 18 = z2 at *
                generalize vs 1 = y1 at *
                subst v1
                obtain ⟨ra, rc, er⟩ := Row.shape e1
                obtain ⟨sa, sc, es⟩ := Row.shape e2
                rw [show (X ++ [t.extract i (k)]).length = X.length + 1 from by simp] at er
                rw [show (Y ++ [(i : Int)]).length = Y.length + 1 from by simp] at es
                subst er
                subst es
                have HT2 := Lib.hid (Tz.more HT.out hI hc0 (by rw [← HXY.out.1]; exact e1) (by rw [← HXY.out.2]; exact e2) o1 o2)
                have d1 := hI.k1
                have d3 := hI.fz 1
                clear hI hc0 e1 e2 o1 o2
                go_wp2
                go_roundw
                case rel => exact ⟨k, _, _, _, HKI.out.2, rfl, HP2, HT2⟩
                case measure => have := HKI.out; simp [intOf]; omega
    · obtain rfl : i = n := by omega
      have hdone : toks t = L := PI.done (by rw [← HN.out]; exact HPI.out)
      have hRD : Rd w wr r wr.heap.size (toks t) 0 (i : Int) := by
        rw [hdone]
        exact HT.out.rd (by rw [← hdone]; have := toks_few (t := t); rw [← HN.out] at this; omega) (fun x hx => by rw [← hdone] at hx; have := toks_size x hx; rw [← HN.out] at this; omega)
      have HA := one_any HEN.out 20 (Nat.le_refl _) hRD
      rw [List.drop_zero] at HA
      have HRD := Lib.hid hRD
      have HGW : Hid (w.heap.size ≤ wr.heap.size) := Lib.hid HT.out.gr.size
      clear hRD hdone HPI HT
      cases hP : pOne 20 (toks t) with
      | err c R =>
        have HPA : Hid (pAll t = .err c R) := Lib.hid (by unfold pAll; rw [hP])
        rw [hP] at HA
        have HAA := Lib.hid HA
        clear HA hP
        go_wp2_with (go_at_call 12; refine HAA.out.mono ?_; rintro e' w8 ⟨v, u, b, rfl, _, ⟨rfl, ha⟩, hb, hs⟩; have H8 := Lib.hid (And.intro ha (And.intro hb hs)); clear ha hb hs)
        exact bodyPost_ret (v := .tuple #[.nilIface, .iface 69 (.pointer (some ⟨b, 0, none⟩))]) (by simp [results, Tryz.results5, go_sem]) rfl (by rw [HPA.out]; exact ⟨_, b, rfl, ⟨rfl, H8.out.1⟩, H8.out.2.2.gr HRD.out.gr fun q e => by rw [e]; exact HRD.out.fr⟩)
      | ok f R =>
        rw [hP] at HA
        have HAA := Lib.hid HA
        have HP := Lib.hid hP
        clear HA hP
        go_wp2_with (go_at_call 12; refine HAA.out.mono ?_; rintro e' w8 ⟨v, k8, rfl, hrr, hrd, hv, hs⟩; have H8 := Lib.hid (And.intro hrr (And.intro hrd (And.intro hv hs))); clear hrr hrd hv hs)
        obtain ⟨a8, c8, g0, _⟩ := H8.out.2.1.ws
        have g2 := H8.out.2.1.c2
        have hk8 := H8.out.2.1.hk
        have hl8 := H8.out.2.1.hl
        obtain ⟨m8, hm8⟩ : ∃ m8, m8 = (toks t).length := ⟨_, rfl⟩
        rw [← hm8] at g0 hk8 hl8
        have e0 : (0 : Int) ≤ (k8 : Int) := by omega
        have e2 : (m8 : Int) ≤ 2001 := by omega
        have HM8 := Lib.hid hm8
        clear hm8 hl8
        by_cases hkk : k8 < m8
        · have e1 : (k8 : Int) < (m8 : Int) := by omega
          have HR : Hid (∃ x r2, R = x :: r2) := Lib.hid ⟨_, _, by rw [H8.out.1, H8.out.2.1.drop (by rw [← HM8.out]; exact hkk)]⟩
          go_quiet (fail)
          go_wp2_with (go_at_call 13; refine (fail_any (H8.out.2.1.gr' ((Gr.refl w8).drewN _)) _).mono ?_; rintro e' w9 ⟨z, bz, rfl, hz1, hz2, hz3⟩; have HZ := Lib.hid (And.intro hz1 (And.intro hz2 hz3)); clear hz1 hz2 hz3)
          obtain ⟨x, r2, hR⟩ := HR.out
          exact bodyPost_ret (v := .tuple #[.nilIface, z]) (by simp [results, Tryz.results5, go_sem]) rfl (by
            have hp : pAll t = .err 3 (x :: r2) := by unfold pAll; rw [HP.out, hR]
            rw [hp, ← hR, H8.out.1]
            exact ⟨_, bz, rfl, HZ.out.1, ((H8.out.2.2.2.gr HRD.out.gr fun q e => by rw [e]; exact HRD.out.fr).drewN _).trans HZ.out.2.2⟩)
        · obtain rfl : k8 = m8 := by omega
          have HR : Hid (R = []) := Lib.hid (by rw [H8.out.1, HM8.out, List.drop_length])
          go_quiet (fail)
          go_wp2
          obtain ⟨tt, xx, hv⟩ := H8.out.2.2.1.iface
          exact bodyPost_ret (v := .tuple #[v, .nilIface]) (by simp [results, Tryz.results5, go_sem]) rfl (by
            have hp : pAll t = .ok f [] := by unfold pAll; rw [HP.out, HR.out]
            rw [hp]
            exact ⟨_, rfl, (H8.out.2.2.1.mono fun g hg => Nat.le_trans HGW.out hg).same (fun g hg => rfl), (H8.out.2.2.2.gr HRD.out.gr fun q e => by rw [e]; exact HRD.out.fr).drewN _⟩)
end Go.Proofs.YthkccohigoejgaaGreatDoor

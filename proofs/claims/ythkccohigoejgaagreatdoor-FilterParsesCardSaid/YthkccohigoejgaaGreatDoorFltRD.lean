/-
  The reference's signs, walked.
-/
import Derived.Test.YthkccohigoejgaaGreatDoorFltRC
import Derived.StillTailTactics
namespace Go.Proofs.YthkccohigoejgaaGreatDoor
open Go Go.RowKit

def wordI : Option Nat → Value
  | none => .int .i64 (-1)
  | some a => .int .i64 (a : Int)
theorem idxB {c : UInt8} (h : c ≠ 40) (h2 : c ≠ 41) : Lib.indexByte [40, 41] c = -1 := by
  have h3 : ((40 : UInt8) == c) = false := by simpa using fun e => h e.symm
  have h4 : ((41 : UInt8) == c) = false := by simpa using fun e => h2 e.symm
  simp [Lib.indexByte, h3, h4]
theorem back8 (c : UInt8) : ((c.toNat : Int)).toNat.toUInt8 = c := by simp
/-- An open word began before here. -/
theorem fold_open (t : ByteArray) : ∀ (i a : Nat), (foldT t i).1 = some a → a < i
  | 0, a, h => by simp [foldT] at h
  | i + 1, a, h => by
    by_cases hs : sepc (chr t i)
    · rw [fold_sep hs] at h; cases h
    · rw [fold_word hs] at h
      injection h with h
      cases e : (foldT t i).1 with
      | none => rw [e] at h; simp at h; omega
      | some b => rw [e] at h; simp at h; have := fold_open t i b e; omega
theorem ib_g (s : ByteArray) (c : Int) (w : World) : Calls Tryz.prog 16 #[.string s, .int .u8 c] w fun e w' => e = .returned (.int .i64 (Lib.indexByte s.data.toList c.toNat.toUInt8)) ∧ w' = w := Tryz.strings_IndexByte s c w
set_option maxRecDepth 100000 in
set_option maxHeartbeats 8000000 in
theorem signs_any {w : World} (HE : Env w) (t : ByteArray) (ht : t.size ≤ 2000) :
    Calls Tryz.prog 9 #[.string t, .string ⟨#[40, 41]⟩] w fun E w' => ∃ p, E = .returned (.pointer (some ⟨p, 0, none⟩)) ∧ RP w w' p w'.heap.size (toks t) (t.size : Int) 0 (-1) := by
  have HEN := Lib.hid HE
  clear HE
  obtain ⟨n, hn⟩ : ∃ n, n = t.size := ⟨_, rfl⟩
  have HN := Lib.hid hn
  rw [← hn] at ht ⊢
  clear hn
  have hlen : ∀ w ty, (Builtin.len_ #[9] ty #[.string t]).run Tryz.prog w = .ok (.int .i64 (n : Int)) w := fun w ty => by rw [HN.out]; simp [go_sem, Tryz.underlying9]
  have n0 : (n : Int) ≤ 2000 := by omega
  obtain ⟨i0, hi0, hz0, hz1, hz2⟩ := info_parts sgInfo
  have he40 : Utf8.encode 40 = (⟨#[40]⟩ : ByteArray) := by kernel_rfl
  have he41 : Utf8.encode 41 = (⟨#[41]⟩ : ByteArray) := by kernel_rfl
  have g0 := HEN.out.fine.1
  have g1 := HEN.out.fine.2
  go_enter Tryz.func9, Tryz.ntmps9
  go_wp2
  obtain ⟨p, hp⟩ : ∃ p, p = w.heap.size := ⟨_, rfl⟩
  obtain ⟨w1, hw1⟩ : ∃ w1, w1 = w.alloc (.cells #[.slice none 0 0, .int .i64 (n : Int), .int .i64 0, .int .i64 (-1), .int .i64 0] 43) := ⟨_, rfl⟩
  have HS0 : Hid (Sz w w1 p (n : Int) [] (.slice none 0 0)) := Lib.hid (by
    rw [hw1, hp]
    refine ⟨alloc_cell w _ rfl, alloc_cell w _ rfl, alloc_cell w _ rfl, alloc_cell w _ rfl, fun j => by simp, Row.nil _ _ _ _, fun g e => by simp [Value.ownBlock] at e, (Gr.refl w).alloc _, Nat.le_refl _⟩)
  rw [← hp, ← hw1]
  clear hp hw1 g0 g1
  go_loopw [6, 7] (fun s6 s7 wr => ∃ (i : Nat) (v : Value), i ≤ n + 1 ∧ s7 = .int .i64 (i : Int) ∧ s6 = wordI (foldT t i).1 ∧ Hid (Sz w wr p (n : Int) (foldT t i).2 v)) (fun _ s _ => n + 1 - (intOf s).toNat)
  case atStart => exact ⟨0, _, Nat.zero_le _, rfl, rfl, HS0⟩
  case round =>
    clear HS0
    obtain ⟨i, v, hi, rfl, rfl, HSZ⟩ := hrel
    have q0 : (0 : Int) ≤ (i : Int) := by omega
    by_cases hlt : i ≤ n
    · have q1 : (i : Int) ≤ (n : Int) := by omega
      obtain ⟨L, hL⟩ : ∃ L, L = (foldT t i).2 := ⟨_, rfl⟩
      obtain ⟨a', ha'⟩ : ∃ a', a' = (foldT t i).1 := ⟨_, rfl⟩
      have HF : Hid (foldT t i = (a', L)) := Lib.hid (by rw [hL, ha'])
      rw [← hL] at HSZ
      rw [← ha']
      have HFEW : Hid (L.length ≤ 999999) := Lib.hid (by have := (fold_few t i).2; rw [← hL] at this; omega)
      have HFEW2 : Hid (L.length ≤ 1000000 ∧ L.length + 1 ≤ 1000000) := Lib.hid (by have := HFEW.out; omega)
      have HOPEN : Hid (∀ a, a' = some a → a < i) := Lib.hid (fun a e => fold_open t i a (by rw [← ha', e]))
      clear hL ha'
      obtain ⟨va, vc, hv⟩ := Row.shape HSZ.out.row
      subst hv
      have HNP : Hid (¬ (Value.slice va L.length vc).ownBlock = some p) := Lib.hid (fun e => (HSZ.out.own p e).2 rfl)
      have HOW : Hid (∀ g, (Value.slice va L.length vc).ownBlock = some g → g < wr.heap.size) := Lib.hid (fun g e => Row.lt HSZ.out.row e)
      by_cases hin : i < n
      · have q2 : (i : Int) < (n : Int) := by omega
        have HIT : Hid (i < t.size) := Lib.hid (by rw [← HN.out]; exact hin)
        by_cases c1 : chr t i = 32
        · have hx : ∀ w, Sem.run Tryz.prog (Instr.index 9 (.string t) (.int .i64 (i : Int))) w = .ok (.int .u8 32) w := fun w => by rw [run_idx HIT.out, c1]; rfl
          have HC := Lib.hid c1
          clear c1
          cases a' with
          | none =>
            have HF2 : Hid (foldT t (i + 1) = (none, L)) := Lib.hid (by rw [fold_sep (.inl HC.out), if_pos HC.out, HF.out]; try rfl)
            simp only [wordI]
            go_wp2_with (first
              | (go_at_call 16; refine (ib_g _ _ _).mono ?_; rintro E w2 ⟨rfl, hww⟩; replace hww := hww.symm; subst hww; rw [show Lib.indexByte (⟨#[40, 41]⟩ : ByteArray).data.toList (Int.toNat 32).toUInt8 = -1 from by decide])
              | go_in)
            go_roundw
            case rel => exact ⟨i + 1, _, by omega, by go_num, (by rw [HF2.out]; try rfl), (by rw [HF2.out]; exact HSZ)⟩
            case measure => simp [intOf] <;> omega
          | some a =>
            have HF2 : Hid (foldT t (i + 1) = (none, L ++ [tk t a i])) := Lib.hid (by rw [fold_sep (.inl HC.out), if_pos HC.out, HF.out]; try rfl)
            have hai := HOPEN.out a rfl
            have HAI : Hid (a ≤ i ∧ i ≤ t.size) := Lib.hid ⟨by omega, by rw [← HN.out]; omega⟩
            have a0 : (0 : Int) ≤ (a : Int) := by omega
            simp only [wordI]
            go_wp2_with (first
              | (go_at_call 16; refine (ib_g _ _ _).mono ?_; rintro E w2 ⟨rfl, hww⟩; replace hww := hww.symm; subst hww; rw [show Lib.indexByte (⟨#[40, 41]⟩ : ByteArray).data.toList (Int.toNat 32).toUInt8 = -1 from by decide])
              | go_in)
            refine wp_region_k (n := 13) (fun u => Sav (fun g => (Value.slice va L.length vc).ownBlock = some g) wr u ∧ SRow u (.slice va L.length vc) L) [Fg.eq (.pointer (some ⟨p, 0, none⟩)), Fg.eq (.pointer (some ⟨p, 0, none⟩)), Fg.eq (.pointer (some ⟨p, 0, none⟩)), Fg.eq (.pointer (some ⟨p, 0, none⟩)), Fg.eq (.slice va L.length vc), Fg.eq (.string t), Fg.eq (.int .i64 (a : Int)), Fg.eq (.int .i64 (i : Int)), Fg.eq (.string (t.extract a i)), Fg.eq (.int .i64 (a : Int)), Fg.eq (.agg #[.string (t.extract a i), .int .i64 (a : Int)]), Fg.newG wr.heap.size (tk t a i), Fg.rowG wr.heap.size (.slice va L.length vc) (L ++ [tk t a i])] [43, 44, 45, 46, 47, 48, 49, 50, 51, 52, 53, 54, 55] ⟨.of_gr (Gr.refl wr).drew, Row.gr HSZ.out.row (Gr.refl wr).drew⟩ (by kernel_rfl) (by kernel_rfl) (by kernel_rfl) ?_ ?_
            · intro L' q o ac w1 hi' ho hA
              have hI := hA.gr
              match q, hi' with
              | 0, _ =>
                obtain rfl := Option.some.inj ho
                exact kstep_val hA (s_move rfl (show ac.eval (.tmp 5) = .pointer (some ⟨p, 0, none⟩) from hA.other 5 (by decide))) rfl
              | 1, _ =>
                obtain rfl := Option.some.inj ho
                exact kstep_val hA (s_move rfl (show ac.eval (.tmp 5) = .pointer (some ⟨p, 0, none⟩) from hA.other 5 (by decide))) rfl
              | 2, _ =>
                obtain rfl := Option.some.inj ho
                exact kstep_val hA (s_nil rfl (hA.fact 1 (hA.dep 1 (by kernel_rfl) (by decide)))) rfl
              | 3, _ =>
                obtain rfl := Option.some.inj ho
                exact kstep_val hA (p_fa0 rfl (hA.fact 2 (hA.dep 2 (by kernel_rfl) (by decide)))) rfl
              | 4, _ =>
                obtain rfl := Option.some.inj ho
                exact kstep_val hA (p_load rfl (hA.fact 3 (hA.dep 3 (by kernel_rfl) (by decide))) (hI.1.cell HSZ.out.c0 HNP.out)) rfl
              | 5, _ =>
                obtain rfl := Option.some.inj ho
                exact kstep_val hA (s_move rfl (show ac.eval (.tmp 0) = .string t from hA.other 0 (by decide))) rfl
              | 6, _ =>
                obtain rfl := Option.some.inj ho
                exact kstep_val hA (s_move rfl (show ac.eval (.tmp 6) = .int .i64 (a : Int) from hA.other 6 (by decide))) rfl
              | 7, _ =>
                obtain rfl := Option.some.inj ho
                exact kstep_val hA (s_move rfl (show ac.eval (.tmp 7) = .int .i64 (i : Int) from hA.other 7 (by decide))) rfl
              | 8, _ =>
                obtain rfl := Option.some.inj ho
                exact kstep_val hA (s_sub rfl (hA.fact 5 (hA.dep 5 (by kernel_rfl) (by decide))) (hA.fact 6 (hA.dep 6 (by kernel_rfl) (by decide))) (hA.fact 7 (hA.dep 7 (by kernel_rfl) (by decide))) HAI.out.1 HAI.out.2) rfl
              | 9, _ =>
                obtain rfl := Option.some.inj ho
                exact kstep_val hA (s_move rfl (show ac.eval (.tmp 6) = .int .i64 (a : Int) from hA.other 6 (by decide))) rfl
              | 10, _ =>
                obtain rfl := Option.some.inj ho
                exact kstep_val hA (p_build rfl (hA.fact 8 (hA.dep 8 (by kernel_rfl) (by decide))) (hA.fact 9 (hA.dep 9 (by kernel_rfl) (by decide)))) rfl
              | 11, _ =>
                obtain rfl := Option.some.inj ho
                exact kstep_gr hA (p_buildS rfl (hA.fact 10 (hA.dep 10 (by kernel_rfl) (by decide)))) ((Gr.refl _).alloc _) ⟨hI.1.then (.of_gr ((Gr.refl _).alloc _)), Row.gr hI.2 ((Gr.refl _).alloc _)⟩ ⟨_, rfl, hI.1.size, by simp [tk], by simp [tk]⟩
              | 12, _ =>
                obtain rfl := Option.some.inj ho
                obtain ⟨g, hv, hge, hcg, hch⟩ := (hA.fact 11 (hA.dep 11 (by kernel_rfl) (by decide)))
                obtain ⟨v', w', hr, hrow, hgrow, hown, hold⟩ := SRow.app (g := g) (c := 1) hI.2 hcg hch HFEW.out
                have sv : Sav (fun g => (Value.slice va L.length vc).ownBlock = some g) w1 w' := .of_grown hgrow fun _ h => h
                refine kstep_keep hA (s_app rfl (hA.fact 4 (hA.dep 4 (by kernel_rfl) (by decide))) hv hr) ⟨hI.1.then sv, hold⟩ ⟨hrow, fun q hq => (hown q hq).imp id (Nat.le_trans hI.1.size)⟩ ?_
                intro j hj u hu
                match j, hj, hu with
                | 0, _, hu => exact hu
                | 1, _, hu => exact hu
                | 2, _, hu => exact hu
                | 3, _, hu => exact hu
                | 4, _, hu => exact hu
                | 5, _, hu => exact hu
                | 6, _, hu => exact hu
                | 7, _, hu => exact hu
                | 8, _, hu => exact hu
                | 9, _, hu => exact hu
                | 10, _, hu => exact hu
                | 11, _, hu => obtain ⟨g', h0, h1, h2, h3⟩ := hu; exact ⟨g', h0, h1, sv.cell h2 (fun e => by have := HOW.out g' e; omega), sv.cell h3 (fun e => by have := HOW.out g' e; omega)⟩
                | 12, hj, _ => exact absurd rfl hj
                | j + 13, _, hu => trivial
              | q + 13, hk => exact absurd (show q + 13 < 13 from hk) (by omega)
            · intro vs w5 hI hv
              obtain ⟨e1, o1⟩ : SRow w5 (vs 12) (L ++ [tk t a i]) ∧ ∀ g, (vs 12).ownBlock = some g → (Value.slice va L.length vc).ownBlock = some g ∨ wr.heap.size ≤ g := hv 12 (by omega)
              have v0 : vs 0 = .pointer (some ⟨p, 0, none⟩) := hv 0 (by omega)
              have hsv := hI.1
              clear hv hI
              simp only [putN, List.drop_succ_cons, List.drop_zero, List.getElem?_cons_succ, List.getElem?_cons_zero]
              generalize vs 12 = z1 at *
              generalize vs 0 = y0 at *
              subst v0
              obtain ⟨ra, rc, er⟩ := Row.shape e1
              rw [show (L ++ [tk t a i]).length = L.length + 1 from by simp] at er
              subst er
              have HS2 := Lib.hid (HSZ.out.more hsv e1 o1)
              have d0 := hsv.cell HSZ.out.c0 HNP.out
              have d2 := hsv.frozen (p := ⟨p, 0, none⟩) (cell_lt HSZ.out.c0) (HSZ.out.fz 0) HNP.out
              clear hsv e1 o1
              go_wp2_with (first
                | go_in)
              go_roundw
              case rel => exact ⟨i + 1, _, by omega, by go_num, (by rw [HF2.out]; try rfl), (by rw [HF2.out]; exact HS2)⟩
              case measure => simp [intOf] <;> omega
        · by_cases c2 : chr t i = 40
          · have hx : ∀ w, Sem.run Tryz.prog (Instr.index 9 (.string t) (.int .i64 (i : Int))) w = .ok (.int .u8 40) w := fun w => by rw [run_idx HIT.out, c2]; rfl
            have HC := Lib.hid c2
            clear c1 c2
            cases a' with
            | none =>
              have HF2 : Hid (foldT t (i + 1) = (none, L ++ [(⟨#[40]⟩, (i : Int))])) := Lib.hid (by rw [fold_sep (.inr (.inl HC.out)), if_neg (by rw [HC.out]; decide), HF.out]; rw [HC.out]; rfl)
              simp only [wordI]
              have k0 := HSZ.out.c0
              have f0 := HSZ.out.fz 0
              go_wp2_with (first
                | (go_at_call 16; refine (ib_g _ _ _).mono ?_; rintro E w2 ⟨rfl, hww⟩; replace hww := hww.symm; subst hww; rw [show Lib.indexByte (⟨#[40, 41]⟩ : ByteArray).data.toList (Int.toNat 40).toUInt8 = 0 from by decide])
                | (at_builtin; refine wpList_append_row rfl _ _ _ (by rfl) i0 (.agg #[.string ⟨#[]⟩, .int .i64 0]) 24 Tryz.underlying41 hi0 hz0 hz1 hz2 rfl szero_sg (by rfl) (Row.gr HSZ.out.row ((Gr.refl _).alloc (.cells #[.string ⟨#[40]⟩, .int .i64 (i : Int)] 60))) ⟨_, 0, none⟩ 1 (by rfl) (scells (⟨#[40]⟩, (i : Int))) (by rfl) (snew _ (⟨#[40]⟩, (i : Int))) (fun u hu => (scells_sg _ u hu).1) (fun u hu => (scells_sg _ u hu).2) HFEW2.out.1 (by decide) ?_; intro v7 w7 hrow hgr hown; obtain ⟨qa, qc, eq⟩ := Row.shape hrow; (try rw [show (L ++ [tk t a i]).length = L.length + 1 from by simp] at eq); subst eq; have hsv7 := Sav.then (Sav.of_gr ((Gr.refl _).alloc _)) (Sav.of_grown hgr fun _ h => h); have HS7 := Lib.hid (Sz.more HSZ.out hsv7 (SRow.one hrow) (fun g e => (hown g e).imp id (fun h => by simp at h; omega))); have k1 := hsv7.cell HSZ.out.c0 (fun e => (HSZ.out.own p e).2 rfl); have k2 := hsv7.frozen (p := ⟨p, 0, none⟩) (cell_lt HSZ.out.c0) (HSZ.out.fz 0) (fun e => (HSZ.out.own p e).2 rfl); clear hrow hgr hown hsv7)
                | go_in)
              go_roundw
              case rel => exact ⟨i + 1, _, by omega, by go_num, (by rw [HF2.out]; try rfl), (by rw [HF2.out]; exact HS7)⟩
              case measure => simp [intOf] <;> omega
            | some a =>
              have HF2 : Hid (foldT t (i + 1) = (none, L ++ [tk t a i] ++ [(⟨#[40]⟩, (i : Int))])) := Lib.hid (by rw [fold_sep (.inr (.inl HC.out)), if_neg (by rw [HC.out]; decide), HF.out]; rw [HC.out]; rfl)
              have hai := HOPEN.out a rfl
              have HAI : Hid (a ≤ i ∧ i ≤ t.size) := Lib.hid ⟨by omega, by rw [← HN.out]; omega⟩
              have a0 : (0 : Int) ≤ (a : Int) := by omega
              simp only [wordI]
              go_wp2_with (first
                | (go_at_call 16; refine (ib_g _ _ _).mono ?_; rintro E w2 ⟨rfl, hww⟩; replace hww := hww.symm; subst hww; rw [show Lib.indexByte (⟨#[40, 41]⟩ : ByteArray).data.toList (Int.toNat 40).toUInt8 = 0 from by decide])
                | go_in)
              refine wp_region_k (n := 13) (fun u => Sav (fun g => (Value.slice va L.length vc).ownBlock = some g) wr u ∧ SRow u (.slice va L.length vc) L) [Fg.eq (.pointer (some ⟨p, 0, none⟩)), Fg.eq (.pointer (some ⟨p, 0, none⟩)), Fg.eq (.pointer (some ⟨p, 0, none⟩)), Fg.eq (.pointer (some ⟨p, 0, none⟩)), Fg.eq (.slice va L.length vc), Fg.eq (.string t), Fg.eq (.int .i64 (a : Int)), Fg.eq (.int .i64 (i : Int)), Fg.eq (.string (t.extract a i)), Fg.eq (.int .i64 (a : Int)), Fg.eq (.agg #[.string (t.extract a i), .int .i64 (a : Int)]), Fg.newG wr.heap.size (tk t a i), Fg.rowG wr.heap.size (.slice va L.length vc) (L ++ [tk t a i])] [43, 44, 45, 46, 47, 48, 49, 50, 51, 52, 53, 54, 55] ⟨.of_gr (Gr.refl wr).drew, Row.gr HSZ.out.row (Gr.refl wr).drew⟩ (by kernel_rfl) (by kernel_rfl) (by kernel_rfl) ?_ ?_
              · intro L' q o ac w1 hi' ho hA
                have hI := hA.gr
                match q, hi' with
                | 0, _ =>
                  obtain rfl := Option.some.inj ho
                  exact kstep_val hA (s_move rfl (show ac.eval (.tmp 5) = .pointer (some ⟨p, 0, none⟩) from hA.other 5 (by decide))) rfl
                | 1, _ =>
                  obtain rfl := Option.some.inj ho
                  exact kstep_val hA (s_move rfl (show ac.eval (.tmp 5) = .pointer (some ⟨p, 0, none⟩) from hA.other 5 (by decide))) rfl
                | 2, _ =>
                  obtain rfl := Option.some.inj ho
                  exact kstep_val hA (s_nil rfl (hA.fact 1 (hA.dep 1 (by kernel_rfl) (by decide)))) rfl
                | 3, _ =>
                  obtain rfl := Option.some.inj ho
                  exact kstep_val hA (p_fa0 rfl (hA.fact 2 (hA.dep 2 (by kernel_rfl) (by decide)))) rfl
                | 4, _ =>
                  obtain rfl := Option.some.inj ho
                  exact kstep_val hA (p_load rfl (hA.fact 3 (hA.dep 3 (by kernel_rfl) (by decide))) (hI.1.cell HSZ.out.c0 HNP.out)) rfl
                | 5, _ =>
                  obtain rfl := Option.some.inj ho
                  exact kstep_val hA (s_move rfl (show ac.eval (.tmp 0) = .string t from hA.other 0 (by decide))) rfl
                | 6, _ =>
                  obtain rfl := Option.some.inj ho
                  exact kstep_val hA (s_move rfl (show ac.eval (.tmp 6) = .int .i64 (a : Int) from hA.other 6 (by decide))) rfl
                | 7, _ =>
                  obtain rfl := Option.some.inj ho
                  exact kstep_val hA (s_move rfl (show ac.eval (.tmp 7) = .int .i64 (i : Int) from hA.other 7 (by decide))) rfl
                | 8, _ =>
                  obtain rfl := Option.some.inj ho
                  exact kstep_val hA (s_sub rfl (hA.fact 5 (hA.dep 5 (by kernel_rfl) (by decide))) (hA.fact 6 (hA.dep 6 (by kernel_rfl) (by decide))) (hA.fact 7 (hA.dep 7 (by kernel_rfl) (by decide))) HAI.out.1 HAI.out.2) rfl
                | 9, _ =>
                  obtain rfl := Option.some.inj ho
                  exact kstep_val hA (s_move rfl (show ac.eval (.tmp 6) = .int .i64 (a : Int) from hA.other 6 (by decide))) rfl
                | 10, _ =>
                  obtain rfl := Option.some.inj ho
                  exact kstep_val hA (p_build rfl (hA.fact 8 (hA.dep 8 (by kernel_rfl) (by decide))) (hA.fact 9 (hA.dep 9 (by kernel_rfl) (by decide)))) rfl
                | 11, _ =>
                  obtain rfl := Option.some.inj ho
                  exact kstep_gr hA (p_buildS rfl (hA.fact 10 (hA.dep 10 (by kernel_rfl) (by decide)))) ((Gr.refl _).alloc _) ⟨hI.1.then (.of_gr ((Gr.refl _).alloc _)), Row.gr hI.2 ((Gr.refl _).alloc _)⟩ ⟨_, rfl, hI.1.size, by simp [tk], by simp [tk]⟩
                | 12, _ =>
                  obtain rfl := Option.some.inj ho
                  obtain ⟨g, hv, hge, hcg, hch⟩ := (hA.fact 11 (hA.dep 11 (by kernel_rfl) (by decide)))
                  obtain ⟨v', w', hr, hrow, hgrow, hown, hold⟩ := SRow.app (g := g) (c := 1) hI.2 hcg hch HFEW.out
                  have sv : Sav (fun g => (Value.slice va L.length vc).ownBlock = some g) w1 w' := .of_grown hgrow fun _ h => h
                  refine kstep_keep hA (s_app rfl (hA.fact 4 (hA.dep 4 (by kernel_rfl) (by decide))) hv hr) ⟨hI.1.then sv, hold⟩ ⟨hrow, fun q hq => (hown q hq).imp id (Nat.le_trans hI.1.size)⟩ ?_
                  intro j hj u hu
                  match j, hj, hu with
                  | 0, _, hu => exact hu
                  | 1, _, hu => exact hu
                  | 2, _, hu => exact hu
                  | 3, _, hu => exact hu
                  | 4, _, hu => exact hu
                  | 5, _, hu => exact hu
                  | 6, _, hu => exact hu
                  | 7, _, hu => exact hu
                  | 8, _, hu => exact hu
                  | 9, _, hu => exact hu
                  | 10, _, hu => exact hu
                  | 11, _, hu => obtain ⟨g', h0, h1, h2, h3⟩ := hu; exact ⟨g', h0, h1, sv.cell h2 (fun e => by have := HOW.out g' e; omega), sv.cell h3 (fun e => by have := HOW.out g' e; omega)⟩
                  | 12, hj, _ => exact absurd rfl hj
                  | j + 13, _, hu => trivial
                | q + 13, hk => exact absurd (show q + 13 < 13 from hk) (by omega)
              · intro vs w5 hI hv
                obtain ⟨e1, o1⟩ : SRow w5 (vs 12) (L ++ [tk t a i]) ∧ ∀ g, (vs 12).ownBlock = some g → (Value.slice va L.length vc).ownBlock = some g ∨ wr.heap.size ≤ g := hv 12 (by omega)
                have v0 : vs 0 = .pointer (some ⟨p, 0, none⟩) := hv 0 (by omega)
                have hsv := hI.1
                clear hv hI
                simp only [putN, List.drop_succ_cons, List.drop_zero, List.getElem?_cons_succ, List.getElem?_cons_zero]
                generalize vs 12 = z1 at *
                generalize vs 0 = y0 at *
                subst v0
                obtain ⟨ra, rc, er⟩ := Row.shape e1
                rw [show (L ++ [tk t a i]).length = L.length + 1 from by simp] at er
                subst er
                have HS2 := Lib.hid (HSZ.out.more hsv e1 o1)
                have d0 := hsv.cell HSZ.out.c0 HNP.out
                have d2 := hsv.frozen (p := ⟨p, 0, none⟩) (cell_lt HSZ.out.c0) (HSZ.out.fz 0) HNP.out
                clear hsv e1 o1
                go_upto_region 17 with fail
                obtain ⟨w6, hw6⟩ : ∃ w6, w6 = w5.setCell ⟨p, 0, none⟩ (.slice ra (L.length + 1) rc) := ⟨_, rfl⟩
                rw [← hw6] at HS2 ⊢
                clear hw6 d0 d2
                have d4 := HS2.out.c0
                have d5 := HS2.out.fz 0
                have hfew3 : Hid ((L ++ [tk t a i]).length ≤ 1000000) := Lib.hid (by rw [List.length_append]; exact HFEW2.out.2)
                go_wp2_with (first
                  | (at_builtin; refine wpList_append_row rfl _ _ _ (by rfl) i0 (.agg #[.string ⟨#[]⟩, .int .i64 0]) 24 Tryz.underlying41 hi0 hz0 hz1 hz2 rfl szero_sg (by rfl) (Row.gr HS2.out.row ((Gr.refl _).alloc (.cells #[.string ⟨#[40]⟩, .int .i64 (i : Int)] 60))) ⟨_, 0, none⟩ 1 (by rfl) (scells (⟨#[40]⟩, (i : Int))) (by rfl) (snew _ (⟨#[40]⟩, (i : Int))) (fun u hu => (scells_sg _ u hu).1) (fun u hu => (scells_sg _ u hu).2) hfew3.out (by decide) ?_; intro v7 w7 hrow hgr hown; obtain ⟨qa, qc, eq⟩ := Row.shape hrow; (try rw [show (L ++ [tk t a i]).length = L.length + 1 from by simp] at eq); subst eq; have hsv7 := Sav.then (Sav.of_gr ((Gr.refl _).alloc _)) (Sav.of_grown hgr fun _ h => h); have HS7 := Lib.hid (Sz.more HS2.out hsv7 (SRow.one hrow) (fun g e => (hown g e).imp id (fun h => by simp at h; omega))); have k1 := hsv7.cell HS2.out.c0 (fun e => (HS2.out.own p e).2 rfl); have k2 := hsv7.frozen (p := ⟨p, 0, none⟩) (cell_lt HS2.out.c0) (HS2.out.fz 0) (fun e => (HS2.out.own p e).2 rfl); clear hrow hgr hown hsv7)
                  | go_in)
                go_roundw
                case rel => exact ⟨i + 1, _, by omega, by go_num, (by rw [HF2.out]; try rfl), (by rw [HF2.out]; exact HS7)⟩
                case measure => simp [intOf] <;> omega
          · by_cases c3 : chr t i = 41
            · have hx : ∀ w, Sem.run Tryz.prog (Instr.index 9 (.string t) (.int .i64 (i : Int))) w = .ok (.int .u8 41) w := fun w => by rw [run_idx HIT.out, c3]; rfl
              have HC := Lib.hid c3
              clear c1 c2 c3
              cases a' with
              | none =>
                have HF2 : Hid (foldT t (i + 1) = (none, L ++ [(⟨#[41]⟩, (i : Int))])) := Lib.hid (by rw [fold_sep (.inr (.inr HC.out)), if_neg (by rw [HC.out]; decide), HF.out]; rw [HC.out]; rfl)
                simp only [wordI]
                have k0 := HSZ.out.c0
                have f0 := HSZ.out.fz 0
                go_wp2_with (first
                  | (go_at_call 16; refine (ib_g _ _ _).mono ?_; rintro E w2 ⟨rfl, hww⟩; replace hww := hww.symm; subst hww; rw [show Lib.indexByte (⟨#[40, 41]⟩ : ByteArray).data.toList (Int.toNat 41).toUInt8 = 1 from by decide])
                  | (at_builtin; refine wpList_append_row rfl _ _ _ (by rfl) i0 (.agg #[.string ⟨#[]⟩, .int .i64 0]) 24 Tryz.underlying41 hi0 hz0 hz1 hz2 rfl szero_sg (by rfl) (Row.gr HSZ.out.row ((Gr.refl _).alloc (.cells #[.string ⟨#[41]⟩, .int .i64 (i : Int)] 60))) ⟨_, 0, none⟩ 1 (by rfl) (scells (⟨#[41]⟩, (i : Int))) (by rfl) (snew _ (⟨#[41]⟩, (i : Int))) (fun u hu => (scells_sg _ u hu).1) (fun u hu => (scells_sg _ u hu).2) HFEW2.out.1 (by decide) ?_; intro v7 w7 hrow hgr hown; obtain ⟨qa, qc, eq⟩ := Row.shape hrow; (try rw [show (L ++ [tk t a i]).length = L.length + 1 from by simp] at eq); subst eq; have hsv7 := Sav.then (Sav.of_gr ((Gr.refl _).alloc _)) (Sav.of_grown hgr fun _ h => h); have HS7 := Lib.hid (Sz.more HSZ.out hsv7 (SRow.one hrow) (fun g e => (hown g e).imp id (fun h => by simp at h; omega))); have k1 := hsv7.cell HSZ.out.c0 (fun e => (HSZ.out.own p e).2 rfl); have k2 := hsv7.frozen (p := ⟨p, 0, none⟩) (cell_lt HSZ.out.c0) (HSZ.out.fz 0) (fun e => (HSZ.out.own p e).2 rfl); clear hrow hgr hown hsv7)
                  | go_in)
                go_roundw
                case rel => exact ⟨i + 1, _, by omega, by go_num, (by rw [HF2.out]; try rfl), (by rw [HF2.out]; exact HS7)⟩
                case measure => simp [intOf] <;> omega
              | some a =>
                have HF2 : Hid (foldT t (i + 1) = (none, L ++ [tk t a i] ++ [(⟨#[41]⟩, (i : Int))])) := Lib.hid (by rw [fold_sep (.inr (.inr HC.out)), if_neg (by rw [HC.out]; decide), HF.out]; rw [HC.out]; rfl)
                have hai := HOPEN.out a rfl
                have HAI : Hid (a ≤ i ∧ i ≤ t.size) := Lib.hid ⟨by omega, by rw [← HN.out]; omega⟩
                have a0 : (0 : Int) ≤ (a : Int) := by omega
                simp only [wordI]
                go_wp2_with (first
                  | (go_at_call 16; refine (ib_g _ _ _).mono ?_; rintro E w2 ⟨rfl, hww⟩; replace hww := hww.symm; subst hww; rw [show Lib.indexByte (⟨#[40, 41]⟩ : ByteArray).data.toList (Int.toNat 41).toUInt8 = 1 from by decide])
                  | go_in)
                refine wp_region_k (n := 13) (fun u => Sav (fun g => (Value.slice va L.length vc).ownBlock = some g) wr u ∧ SRow u (.slice va L.length vc) L) [Fg.eq (.pointer (some ⟨p, 0, none⟩)), Fg.eq (.pointer (some ⟨p, 0, none⟩)), Fg.eq (.pointer (some ⟨p, 0, none⟩)), Fg.eq (.pointer (some ⟨p, 0, none⟩)), Fg.eq (.slice va L.length vc), Fg.eq (.string t), Fg.eq (.int .i64 (a : Int)), Fg.eq (.int .i64 (i : Int)), Fg.eq (.string (t.extract a i)), Fg.eq (.int .i64 (a : Int)), Fg.eq (.agg #[.string (t.extract a i), .int .i64 (a : Int)]), Fg.newG wr.heap.size (tk t a i), Fg.rowG wr.heap.size (.slice va L.length vc) (L ++ [tk t a i])] [43, 44, 45, 46, 47, 48, 49, 50, 51, 52, 53, 54, 55] ⟨.of_gr (Gr.refl wr).drew, Row.gr HSZ.out.row (Gr.refl wr).drew⟩ (by kernel_rfl) (by kernel_rfl) (by kernel_rfl) ?_ ?_
                · intro L' q o ac w1 hi' ho hA
                  have hI := hA.gr
                  match q, hi' with
                  | 0, _ =>
                    obtain rfl := Option.some.inj ho
                    exact kstep_val hA (s_move rfl (show ac.eval (.tmp 5) = .pointer (some ⟨p, 0, none⟩) from hA.other 5 (by decide))) rfl
                  | 1, _ =>
                    obtain rfl := Option.some.inj ho
                    exact kstep_val hA (s_move rfl (show ac.eval (.tmp 5) = .pointer (some ⟨p, 0, none⟩) from hA.other 5 (by decide))) rfl
                  | 2, _ =>
                    obtain rfl := Option.some.inj ho
                    exact kstep_val hA (s_nil rfl (hA.fact 1 (hA.dep 1 (by kernel_rfl) (by decide)))) rfl
                  | 3, _ =>
                    obtain rfl := Option.some.inj ho
                    exact kstep_val hA (p_fa0 rfl (hA.fact 2 (hA.dep 2 (by kernel_rfl) (by decide)))) rfl
                  | 4, _ =>
                    obtain rfl := Option.some.inj ho
                    exact kstep_val hA (p_load rfl (hA.fact 3 (hA.dep 3 (by kernel_rfl) (by decide))) (hI.1.cell HSZ.out.c0 HNP.out)) rfl
                  | 5, _ =>
                    obtain rfl := Option.some.inj ho
                    exact kstep_val hA (s_move rfl (show ac.eval (.tmp 0) = .string t from hA.other 0 (by decide))) rfl
                  | 6, _ =>
                    obtain rfl := Option.some.inj ho
                    exact kstep_val hA (s_move rfl (show ac.eval (.tmp 6) = .int .i64 (a : Int) from hA.other 6 (by decide))) rfl
                  | 7, _ =>
                    obtain rfl := Option.some.inj ho
                    exact kstep_val hA (s_move rfl (show ac.eval (.tmp 7) = .int .i64 (i : Int) from hA.other 7 (by decide))) rfl
                  | 8, _ =>
                    obtain rfl := Option.some.inj ho
                    exact kstep_val hA (s_sub rfl (hA.fact 5 (hA.dep 5 (by kernel_rfl) (by decide))) (hA.fact 6 (hA.dep 6 (by kernel_rfl) (by decide))) (hA.fact 7 (hA.dep 7 (by kernel_rfl) (by decide))) HAI.out.1 HAI.out.2) rfl
                  | 9, _ =>
                    obtain rfl := Option.some.inj ho
                    exact kstep_val hA (s_move rfl (show ac.eval (.tmp 6) = .int .i64 (a : Int) from hA.other 6 (by decide))) rfl
                  | 10, _ =>
                    obtain rfl := Option.some.inj ho
                    exact kstep_val hA (p_build rfl (hA.fact 8 (hA.dep 8 (by kernel_rfl) (by decide))) (hA.fact 9 (hA.dep 9 (by kernel_rfl) (by decide)))) rfl
                  | 11, _ =>
                    obtain rfl := Option.some.inj ho
                    exact kstep_gr hA (p_buildS rfl (hA.fact 10 (hA.dep 10 (by kernel_rfl) (by decide)))) ((Gr.refl _).alloc _) ⟨hI.1.then (.of_gr ((Gr.refl _).alloc _)), Row.gr hI.2 ((Gr.refl _).alloc _)⟩ ⟨_, rfl, hI.1.size, by simp [tk], by simp [tk]⟩
                  | 12, _ =>
                    obtain rfl := Option.some.inj ho
                    obtain ⟨g, hv, hge, hcg, hch⟩ := (hA.fact 11 (hA.dep 11 (by kernel_rfl) (by decide)))
                    obtain ⟨v', w', hr, hrow, hgrow, hown, hold⟩ := SRow.app (g := g) (c := 1) hI.2 hcg hch HFEW.out
                    have sv : Sav (fun g => (Value.slice va L.length vc).ownBlock = some g) w1 w' := .of_grown hgrow fun _ h => h
                    refine kstep_keep hA (s_app rfl (hA.fact 4 (hA.dep 4 (by kernel_rfl) (by decide))) hv hr) ⟨hI.1.then sv, hold⟩ ⟨hrow, fun q hq => (hown q hq).imp id (Nat.le_trans hI.1.size)⟩ ?_
                    intro j hj u hu
                    match j, hj, hu with
                    | 0, _, hu => exact hu
                    | 1, _, hu => exact hu
                    | 2, _, hu => exact hu
                    | 3, _, hu => exact hu
                    | 4, _, hu => exact hu
                    | 5, _, hu => exact hu
                    | 6, _, hu => exact hu
                    | 7, _, hu => exact hu
                    | 8, _, hu => exact hu
                    | 9, _, hu => exact hu
                    | 10, _, hu => exact hu
                    | 11, _, hu => obtain ⟨g', h0, h1, h2, h3⟩ := hu; exact ⟨g', h0, h1, sv.cell h2 (fun e => by have := HOW.out g' e; omega), sv.cell h3 (fun e => by have := HOW.out g' e; omega)⟩
                    | 12, hj, _ => exact absurd rfl hj
                    | j + 13, _, hu => trivial
                  | q + 13, hk => exact absurd (show q + 13 < 13 from hk) (by omega)
                · intro vs w5 hI hv
                  obtain ⟨e1, o1⟩ : SRow w5 (vs 12) (L ++ [tk t a i]) ∧ ∀ g, (vs 12).ownBlock = some g → (Value.slice va L.length vc).ownBlock = some g ∨ wr.heap.size ≤ g := hv 12 (by omega)
                  have v0 : vs 0 = .pointer (some ⟨p, 0, none⟩) := hv 0 (by omega)
                  have hsv := hI.1
                  clear hv hI
                  simp only [putN, List.drop_succ_cons, List.drop_zero, List.getElem?_cons_succ, List.getElem?_cons_zero]
                  generalize vs 12 = z1 at *
                  generalize vs 0 = y0 at *
                  subst v0
                  obtain ⟨ra, rc, er⟩ := Row.shape e1
                  rw [show (L ++ [tk t a i]).length = L.length + 1 from by simp] at er
                  subst er
                  have HS2 := Lib.hid (HSZ.out.more hsv e1 o1)
                  have d0 := hsv.cell HSZ.out.c0 HNP.out
                  have d2 := hsv.frozen (p := ⟨p, 0, none⟩) (cell_lt HSZ.out.c0) (HSZ.out.fz 0) HNP.out
                  clear hsv e1 o1
                  go_upto_region 17 with fail
                  obtain ⟨w6, hw6⟩ : ∃ w6, w6 = w5.setCell ⟨p, 0, none⟩ (.slice ra (L.length + 1) rc) := ⟨_, rfl⟩
                  rw [← hw6] at HS2 ⊢
                  clear hw6 d0 d2
                  have d4 := HS2.out.c0
                  have d5 := HS2.out.fz 0
                  have hfew3 : Hid ((L ++ [tk t a i]).length ≤ 1000000) := Lib.hid (by rw [List.length_append]; exact HFEW2.out.2)
                  go_wp2_with (first
                    | (at_builtin; refine wpList_append_row rfl _ _ _ (by rfl) i0 (.agg #[.string ⟨#[]⟩, .int .i64 0]) 24 Tryz.underlying41 hi0 hz0 hz1 hz2 rfl szero_sg (by rfl) (Row.gr HS2.out.row ((Gr.refl _).alloc (.cells #[.string ⟨#[41]⟩, .int .i64 (i : Int)] 60))) ⟨_, 0, none⟩ 1 (by rfl) (scells (⟨#[41]⟩, (i : Int))) (by rfl) (snew _ (⟨#[41]⟩, (i : Int))) (fun u hu => (scells_sg _ u hu).1) (fun u hu => (scells_sg _ u hu).2) hfew3.out (by decide) ?_; intro v7 w7 hrow hgr hown; obtain ⟨qa, qc, eq⟩ := Row.shape hrow; (try rw [show (L ++ [tk t a i]).length = L.length + 1 from by simp] at eq); subst eq; have hsv7 := Sav.then (Sav.of_gr ((Gr.refl _).alloc _)) (Sav.of_grown hgr fun _ h => h); have HS7 := Lib.hid (Sz.more HS2.out hsv7 (SRow.one hrow) (fun g e => (hown g e).imp id (fun h => by simp at h; omega))); have k1 := hsv7.cell HS2.out.c0 (fun e => (HS2.out.own p e).2 rfl); have k2 := hsv7.frozen (p := ⟨p, 0, none⟩) (cell_lt HS2.out.c0) (HS2.out.fz 0) (fun e => (HS2.out.own p e).2 rfl); clear hrow hgr hown hsv7)
                    | go_in)
                  go_roundw
                  case rel => exact ⟨i + 1, _, by omega, by go_num, (by rw [HF2.out]; try rfl), (by rw [HF2.out]; exact HS7)⟩
                  case measure => simp [intOf] <;> omega
            · have HNS : Hid (¬ sepc (chr t i)) := Lib.hid (fun h => h.elim c1 (fun h => h.elim c2 c3))
              have hy1 := u8_ne (k := 32) (by decide) c1
              have hx := run_idx HIT.out
              have hxb : Lib.indexByte (⟨#[40, 41]⟩ : ByteArray).data.toList ((chr t i).toNat : Int).toNat.toUInt8 = -1 := by rw [back8]; exact idxB c2 c3
              generalize ((chr t i).toNat : Int) = x at hx hy1 hxb
              have y1 : ¬ x = 32 := hy1
              have HXB := Lib.hid hxb
              clear c1 c2 c3 hy1 hxb
              cases a' with
              | none =>
                have HF2 : Hid (foldT t (i + 1) = (some i, L)) := Lib.hid (by rw [fold_word HNS.out, HF.out]; try rfl)
                simp only [wordI]
                go_wp2_with (first
                  | (go_at_call 16; refine (ib_g _ _ _).mono ?_; rintro E w2 ⟨rfl, hww⟩; replace hww := hww.symm; subst hww; rw [HXB.out])
                  | go_in)
                go_roundw
                case rel => exact ⟨i + 1, _, by omega, by go_num, (by rw [HF2.out]; try rfl), (by rw [HF2.out]; exact HSZ)⟩
                case measure => simp [intOf] <;> omega
              | some a =>
                have HF2 : Hid (foldT t (i + 1) = (some a, L)) := Lib.hid (by rw [fold_word HNS.out, HF.out]; try rfl)
                have a0 : (0 : Int) ≤ (a : Int) := by omega
                simp only [wordI]
                go_wp2_with (first
                  | (go_at_call 16; refine (ib_g _ _ _).mono ?_; rintro E w2 ⟨rfl, hww⟩; replace hww := hww.symm; subst hww; rw [HXB.out])
                  | go_in)
                go_roundw
                case rel => exact ⟨i + 1, _, by omega, by go_num, (by rw [HF2.out]; try rfl), (by rw [HF2.out]; exact HSZ)⟩
                case measure => simp [intOf] <;> omega
      · obtain rfl : i = n := by omega
        have HC : Hid (chr t i = 32) := Lib.hid (by rw [HN.out]; exact chr_end t)
        cases a' with
        | none =>
          have HF2 : Hid (foldT t (i + 1) = (none, L)) := Lib.hid (by rw [fold_sep (.inl HC.out), if_pos HC.out, HF.out]; try rfl)
          simp only [wordI]
          go_wp2_with (first
            | (go_at_call 16; refine (ib_g _ _ _).mono ?_; rintro E w2 ⟨rfl, hww⟩; replace hww := hww.symm; subst hww; rw [show Lib.indexByte (⟨#[40, 41]⟩ : ByteArray).data.toList (Int.toNat 32).toUInt8 = -1 from by decide])
            | go_in)
          go_roundw
          case rel => exact ⟨i + 1, _, by omega, by go_num, (by rw [HF2.out]; try rfl), (by rw [HF2.out]; exact HSZ)⟩
          case measure => simp [intOf] <;> omega
        | some a =>
          have HF2 : Hid (foldT t (i + 1) = (none, L ++ [tk t a i])) := Lib.hid (by rw [fold_sep (.inl HC.out), if_pos HC.out, HF.out]; try rfl)
          have hai := HOPEN.out a rfl
          have HAI : Hid (a ≤ i ∧ i ≤ t.size) := Lib.hid ⟨by omega, by rw [← HN.out]; omega⟩
          have a0 : (0 : Int) ≤ (a : Int) := by omega
          simp only [wordI]
          go_wp2_with (first
            | (go_at_call 16; refine (ib_g _ _ _).mono ?_; rintro E w2 ⟨rfl, hww⟩; replace hww := hww.symm; subst hww; rw [show Lib.indexByte (⟨#[40, 41]⟩ : ByteArray).data.toList (Int.toNat 32).toUInt8 = -1 from by decide])
            | go_in)
          refine wp_region_k (n := 13) (fun u => Sav (fun g => (Value.slice va L.length vc).ownBlock = some g) wr u ∧ SRow u (.slice va L.length vc) L) [Fg.eq (.pointer (some ⟨p, 0, none⟩)), Fg.eq (.pointer (some ⟨p, 0, none⟩)), Fg.eq (.pointer (some ⟨p, 0, none⟩)), Fg.eq (.pointer (some ⟨p, 0, none⟩)), Fg.eq (.slice va L.length vc), Fg.eq (.string t), Fg.eq (.int .i64 (a : Int)), Fg.eq (.int .i64 (i : Int)), Fg.eq (.string (t.extract a i)), Fg.eq (.int .i64 (a : Int)), Fg.eq (.agg #[.string (t.extract a i), .int .i64 (a : Int)]), Fg.newG wr.heap.size (tk t a i), Fg.rowG wr.heap.size (.slice va L.length vc) (L ++ [tk t a i])] [43, 44, 45, 46, 47, 48, 49, 50, 51, 52, 53, 54, 55] ⟨.of_gr (Gr.refl wr).drew, Row.gr HSZ.out.row (Gr.refl wr).drew⟩ (by kernel_rfl) (by kernel_rfl) (by kernel_rfl) ?_ ?_
          · intro L' q o ac w1 hi' ho hA
            have hI := hA.gr
            match q, hi' with
            | 0, _ =>
              obtain rfl := Option.some.inj ho
              exact kstep_val hA (s_move rfl (show ac.eval (.tmp 5) = .pointer (some ⟨p, 0, none⟩) from hA.other 5 (by decide))) rfl
            | 1, _ =>
              obtain rfl := Option.some.inj ho
              exact kstep_val hA (s_move rfl (show ac.eval (.tmp 5) = .pointer (some ⟨p, 0, none⟩) from hA.other 5 (by decide))) rfl
            | 2, _ =>
              obtain rfl := Option.some.inj ho
              exact kstep_val hA (s_nil rfl (hA.fact 1 (hA.dep 1 (by kernel_rfl) (by decide)))) rfl
            | 3, _ =>
              obtain rfl := Option.some.inj ho
              exact kstep_val hA (p_fa0 rfl (hA.fact 2 (hA.dep 2 (by kernel_rfl) (by decide)))) rfl
            | 4, _ =>
              obtain rfl := Option.some.inj ho
              exact kstep_val hA (p_load rfl (hA.fact 3 (hA.dep 3 (by kernel_rfl) (by decide))) (hI.1.cell HSZ.out.c0 HNP.out)) rfl
            | 5, _ =>
              obtain rfl := Option.some.inj ho
              exact kstep_val hA (s_move rfl (show ac.eval (.tmp 0) = .string t from hA.other 0 (by decide))) rfl
            | 6, _ =>
              obtain rfl := Option.some.inj ho
              exact kstep_val hA (s_move rfl (show ac.eval (.tmp 6) = .int .i64 (a : Int) from hA.other 6 (by decide))) rfl
            | 7, _ =>
              obtain rfl := Option.some.inj ho
              exact kstep_val hA (s_move rfl (show ac.eval (.tmp 7) = .int .i64 (i : Int) from hA.other 7 (by decide))) rfl
            | 8, _ =>
              obtain rfl := Option.some.inj ho
              exact kstep_val hA (s_sub rfl (hA.fact 5 (hA.dep 5 (by kernel_rfl) (by decide))) (hA.fact 6 (hA.dep 6 (by kernel_rfl) (by decide))) (hA.fact 7 (hA.dep 7 (by kernel_rfl) (by decide))) HAI.out.1 HAI.out.2) rfl
            | 9, _ =>
              obtain rfl := Option.some.inj ho
              exact kstep_val hA (s_move rfl (show ac.eval (.tmp 6) = .int .i64 (a : Int) from hA.other 6 (by decide))) rfl
            | 10, _ =>
              obtain rfl := Option.some.inj ho
              exact kstep_val hA (p_build rfl (hA.fact 8 (hA.dep 8 (by kernel_rfl) (by decide))) (hA.fact 9 (hA.dep 9 (by kernel_rfl) (by decide)))) rfl
            | 11, _ =>
              obtain rfl := Option.some.inj ho
              exact kstep_gr hA (p_buildS rfl (hA.fact 10 (hA.dep 10 (by kernel_rfl) (by decide)))) ((Gr.refl _).alloc _) ⟨hI.1.then (.of_gr ((Gr.refl _).alloc _)), Row.gr hI.2 ((Gr.refl _).alloc _)⟩ ⟨_, rfl, hI.1.size, by simp [tk], by simp [tk]⟩
            | 12, _ =>
              obtain rfl := Option.some.inj ho
              obtain ⟨g, hv, hge, hcg, hch⟩ := (hA.fact 11 (hA.dep 11 (by kernel_rfl) (by decide)))
              obtain ⟨v', w', hr, hrow, hgrow, hown, hold⟩ := SRow.app (g := g) (c := 1) hI.2 hcg hch HFEW.out
              have sv : Sav (fun g => (Value.slice va L.length vc).ownBlock = some g) w1 w' := .of_grown hgrow fun _ h => h
              refine kstep_keep hA (s_app rfl (hA.fact 4 (hA.dep 4 (by kernel_rfl) (by decide))) hv hr) ⟨hI.1.then sv, hold⟩ ⟨hrow, fun q hq => (hown q hq).imp id (Nat.le_trans hI.1.size)⟩ ?_
              intro j hj u hu
              match j, hj, hu with
              | 0, _, hu => exact hu
              | 1, _, hu => exact hu
              | 2, _, hu => exact hu
              | 3, _, hu => exact hu
              | 4, _, hu => exact hu
              | 5, _, hu => exact hu
              | 6, _, hu => exact hu
              | 7, _, hu => exact hu
              | 8, _, hu => exact hu
              | 9, _, hu => exact hu
              | 10, _, hu => exact hu
              | 11, _, hu => obtain ⟨g', h0, h1, h2, h3⟩ := hu; exact ⟨g', h0, h1, sv.cell h2 (fun e => by have := HOW.out g' e; omega), sv.cell h3 (fun e => by have := HOW.out g' e; omega)⟩
              | 12, hj, _ => exact absurd rfl hj
              | j + 13, _, hu => trivial
            | q + 13, hk => exact absurd (show q + 13 < 13 from hk) (by omega)
          · intro vs w5 hI hv
            obtain ⟨e1, o1⟩ : SRow w5 (vs 12) (L ++ [tk t a i]) ∧ ∀ g, (vs 12).ownBlock = some g → (Value.slice va L.length vc).ownBlock = some g ∨ wr.heap.size ≤ g := hv 12 (by omega)
            have v0 : vs 0 = .pointer (some ⟨p, 0, none⟩) := hv 0 (by omega)
            have hsv := hI.1
            clear hv hI
            simp only [putN, List.drop_succ_cons, List.drop_zero, List.getElem?_cons_succ, List.getElem?_cons_zero]
            generalize vs 12 = z1 at *
            generalize vs 0 = y0 at *
            subst v0
            obtain ⟨ra, rc, er⟩ := Row.shape e1
            rw [show (L ++ [tk t a i]).length = L.length + 1 from by simp] at er
            subst er
            have HS2 := Lib.hid (HSZ.out.more hsv e1 o1)
            have d0 := hsv.cell HSZ.out.c0 HNP.out
            have d2 := hsv.frozen (p := ⟨p, 0, none⟩) (cell_lt HSZ.out.c0) (HSZ.out.fz 0) HNP.out
            clear hsv e1 o1
            go_wp2_with (first
              | go_in)
            go_roundw
            case rel => exact ⟨i + 1, _, by omega, by go_num, (by rw [HF2.out]; try rfl), (by rw [HF2.out]; exact HS2)⟩
            case measure => simp [intOf] <;> omega
    · obtain rfl : i = n + 1 := by omega
      have HDN : Hid ((foldT t (n + 1)).2 = toks t) := Lib.hid (by unfold toks; rw [← HN.out])
      rw [HDN.out] at HSZ
      go_wp2
      go_ret
      exact ⟨p, rfl, HSZ.out.rp (by have := toks_few (t := t); rw [← HN.out] at this; omega) (fun x hx => by have := toks_size x hx; rw [← HN.out] at this; omega)⟩
end Go.Proofs.YthkccohigoejgaaGreatDoor

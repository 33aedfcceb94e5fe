/-
  The reference's OpenBook. (Printed by genbokoc.py.)
-/
import Derived.Test.YticifnegoacopaaGreatDoorBokOB
namespace Go.Proofs.YticifnegoacopaaGreatDoor
open Go Go.RowKit

theorem en_rline : ∀ args w, (callFunc 26 args).run Tryz.prog w = .ok (.enter 26 args) w := enters_of Tryz.func26 (by kernel_rfl) rfl
theorem index_any (s c : ByteArray) (hs : s.size ≤ 20001) (w : World) (h : Env w) : Calls Tryz.prog 33 #[.string s, .string c] w fun e w' => e = .returned (.int .i64 (Lib.indexB s c)) ∧ w = w' := by
  obtain ⟨m, hm⟩ := h.mx
  refine (Tryz.strings_Index s c m w (by omega) hm).mono ?_
  rintro e w' ⟨rfl, rfl⟩
  exact ⟨rfl, rfl⟩
section
variable {ev : Operand → Value} {o : Oper} {w : World} {x y z : Operand} {u : Value}
theorem s_subT {t : ByteArray} {i k : Nat} (ho : o.op = .slice 9 x (some y) (some z) none) (h : ev x = .string t) (hy : ev y = .int .i64 (i : Int)) (hz : ev z = .int .i64 (k : Int)) (h1 : i ≤ k) (h2 : k ≤ t.size) : (execOp ev o).run Tryz.prog w = .ok (.value (.string (t.extract i k))) w := by
  have hr := run_slice_string (P := Tryz.prog) w 9 t .i64 .i64 (i : Int) (k : Int) Tryz.underlying9 (by omega) (by omega) (by omega)
  have e : (Instr.sliceAt 9 (.string t) (some (.int .i64 (i : Int))) (some (.int .i64 (k : Int))) none).run Tryz.prog w = .ok (.string (t.extract i k)) w := by simpa [Instr.sliceAt] using hr
  simp [execOp, ho, h, hy, hz, e, Result.andThen]
theorem s_sufT {t : ByteArray} {i : Nat} (ho : o.op = .slice 9 x (some y) none none) (h : ev x = .string t) (hy : ev y = .int .i64 (i : Int)) (h1 : i ≤ t.size) : (execOp ev o).run Tryz.prog w = .ok (.value (.string (t.extract i t.size))) w := by
  have h0 : (0 : Int) ≤ (i : Int) := by omega
  have h2 : (i : Int) ≤ (t.size : Int) := by omega
  simp [execOp, ho, h, hy, h0, h2, go_sem]
theorem s_buildE {t : ByteArray} {n : Int} (ho : o.op = .build 61 #[(0, x), (1, y)]) (h : ev x = .string t) (k : ev y = .int .i64 n) : (execOp ev o).run Tryz.prog w = .ok (.value (.agg #[.string t, .int .i64 n])) w := by
  simp [execOp, ho, h, k, go_sem]
theorem s_neE {c : Int} (ho : o.op = .binOp .neq 37 x (.const (.int .i64 0)) 37) (h : ev x = .int .i64 c) (hc : c ≠ 0) (k : ev (.const (.int .i64 0)) = .int .i64 0 := by rfl) : (execOp ev o).run Tryz.prog w = .ok (.value (.bool true)) w := by
  simp [execOp, ho, h, k, hc, go_sem]
theorem s_neE0 {c : Int} (ho : o.op = .binOp .neq 37 x (.const (.int .i64 0)) 37) (h : ev x = .int .i64 c) (hc : c = 0) (k : ev (.const (.int .i64 0)) = .int .i64 0 := by rfl) : (execOp ev o).run Tryz.prog w = .ok (.value (.bool false)) w := by
  subst hc
  simp [execOp, ho, h, k, go_sem]
end
theorem wpList_sufT {w : World} {ops : Array Oper} {rest : List Oper} {o : Oper} {a : Act} {Q : Exit → Act → World → Prop} (hg : o.guard = none) (x y : Operand) (ho : o.op = .slice 9 x (some y) none none) {t : ByteArray} {i : Nat} (hx : a.eval x = .string t) (hy : a.eval y = .int .i64 (i : Int)) (h1 : i ≤ t.size)
    (hK : wpList Tryz.prog ops Q rest (a.put o.dst (.string (t.extract i t.size))) w) : wpList Tryz.prog ops Q (o :: rest) a w := by
  refine wpList_plain hg fun K' hK' => ?_
  have hr := s_sufT (ev := a.eval) (o := o) (w := w) ho hx hy h1
  unfold Oper.wp
  rw [hr]
  exact hK' _ _ hK
theorem wpList_midT {w : World} {ops : Array Oper} {rest : List Oper} {o : Oper} {a : Act} {Q : Exit → Act → World → Prop} (hg : o.guard = none) (x y z : Operand) (ho : o.op = .slice 9 x (some y) (some z) none) {t : ByteArray} {i k : Nat} (hx : a.eval x = .string t) (hy : a.eval y = .int .i64 (i : Int)) (hz : a.eval z = .int .i64 (k : Int)) (h1 : i ≤ k) (h2 : k ≤ t.size)
    (hK : wpList Tryz.prog ops Q rest (a.put o.dst (.string (t.extract i k))) w) : wpList Tryz.prog ops Q (o :: rest) a w := by
  refine wpList_plain hg fun K' hK' => ?_
  have hr := s_subT (ev := a.eval) (o := o) (w := w) ho hx hy hz h1 h2
  unfold Oper.wp
  rw [hr]
  exact hK' _ _ hK
/-- In the midst of one line: whether the reference's Add is through. -/
structure IOr (w : World) (n0 r g : Nat) (L L' : List Ent) (v : Value) (P : List ByteArray) (b : Bool) (W : World) : Prop where
  r0 : b = false → RBokAt W n0 r L v
  r1 : b = true → RBok W n0 r L'
  p : PcsAt W g P
  gr : Gr w W
theorem IOr.on {w : World} {n0 r g : Nat} {L L' : List Ent} {v : Value} {P : List ByteArray} {b : Bool} {W W' : World} (h : IOr w n0 r g L L' v P b W) (k : Gr W W') : IOr w n0 r g L L' v P b W' := ⟨fun e => (h.r0 e).gr k, fun e => (h.r1 e).gr k, h.p.gr k, h.gr.trans k⟩
theorem rbook_new (W : World) : RBok (W.alloc (.cells #[.slice none 0 0] 32)) W.heap.size W.heap.size [] :=
  ⟨_, ⟨heap_alloc_new W _, Nat.le_refl _, by simp, Row.nil _ _ _ _, (fun g e => by cases e), EntOk.nil⟩⟩
/-- Between two lines. -/
structure OPR (w : World) (n0 r : Nat) (d : ByteArray) (L : List Ent) (A : Nat) (wr : World) : Prop where
  r : RBok wr n0 r L
  gr : Gr w wr
  st : ∃ m, stO d m = some (A, L)
  le : A ≤ d.size
theorem numOf_some {s : ByteArray} {n : Int} (h : numR s = some n) : numOf s = n := by unfold numOf; rw [h]; rfl

set_option maxRecDepth 100000 in
set_option maxHeartbeats 16000000 in
/-- The reference's OpenBook. -/
theorem ropen_any {w : World} {d : ByteArray} (hd : d.size ≤ 3000) (he : Env w) : Calls Tryz.prog 20 #[.string d] w fun e w' => ∃ r L at_, e = .returned (.tuple #[.pointer (some ⟨r, 0, none⟩), .int .i64 ((at_ : Nat) : Int)]) ∧ RBok w' w.heap.size r L ∧ EndO d at_ L ∧ Gr w w' := by
  have HDS := Lib.hid hd
  have HEN := Lib.hid he
  have HTB := Lib.hid he.tab
  have HB0 := Lib.hid (rbook_new w)
  have HG0 : Hid (Gr w (w.alloc (.cells #[.slice none 0 0] 32))) := Lib.hid ((Gr.refl w).alloc _)
  obtain ⟨n0, hn0⟩ : ∃ n, n = w.heap.size := ⟨_, rfl⟩
  obtain ⟨r, hr⟩ : ∃ n, n = w.heap.size := ⟨_, rfl⟩
  have HN0 : Hid (w.heap.size ≤ n0) := Lib.hid (by omega)
  have HBA : Hid (RBok (w.alloc (.cells #[.slice none 0 0] 32)) n0 r []) := Lib.hid (by rw [hn0, hr]; exact HB0.out)
  have HZN : Hid (n0 = w.heap.size) := Lib.hid hn0
  obtain ⟨D, hD⟩ : ∃ D, D = d.size := ⟨_, rfl⟩
  have HDD := Lib.hid hD
  have d0 : (0 : Int) ≤ (D : Int) := by omega
  have d1 : (D : Int) ≤ 3000 := by omega
  clear HB0 hn0 hd he hD
  rw [← HZN.out]
  go_enter Tryz.func20, Tryz.ntmps20
  go_wp2
  rw [← hr]
  clear hr
  go_loopw [5] (fun s5 wr => ∃ L A, s5 = .int .i64 ((A : Nat) : Int) ∧ Hid (OPR w n0 r d L A wr)) (fun s _ => D + 1 - (intOf s).toNat)
  case atStart => exact ⟨[], 0, rfl, Lib.hid ⟨HBA.out, HG0.out, ⟨0, rfl⟩, Nat.zero_le _⟩⟩
  case round =>
    clear HBA HG0
    obtain ⟨L, A, rfl, HO⟩ := hrel
    have HBE := Lib.hid HO.out.r
    have HGE := Lib.hid HO.out.gr
    have HST := Lib.hid HO.out.st
    have HAD0 : Hid (A ≤ d.size) := Lib.hid HO.out.le
    have HOK : Hid (EntOk L) := Lib.hid (HO.out.r.elim fun _ h => h.ok)
    obtain ⟨R, hR⟩ : ∃ R, R = d.extract A d.size := ⟨_, rfl⟩
    have HRR := Lib.hid hR
    have HRS : Hid (R.size = D - A) := Lib.hid (by rw [hR, drop_len, ← HDD.out])
    have HRL : Hid (R.size ≤ 20001) := Lib.hid (by have := HRS.out; omega)
    have a0 : (0 : Int) ≤ (A : Int) := by omega
    have a1 : (A : Int) ≤ (D : Int) := by have := HAD0.out; have := HDD.out; omega
    clear hR
    rcases Lib.indexB_cases R kNl with hix | ⟨k, hix, _⟩
    · have HIX : Hid (Lib.indexB R ⟨#[10]⟩ = -1) := Lib.hid hix
      clear hix
      go_wp2_with (first
        | (refine wpList_sufT (by rfl) (.tmp 12) (.tmp 13) (by rfl) (by rfl) (by rfl) (i := A) HAD0.out ?_; rw [← HRR.out])
        | (go_at_call 33; refine (index_any R ⟨#[10]⟩ HRL.out _ (HEN.out.gr HGE.out)).mono ?_; rintro e w2 ⟨rfl, rfl⟩; rw [HIX.out]))
      exact bodyPost_ret (v := .tuple #[.pointer (some ⟨r, 0, none⟩), .int .i64 (A : Int)]) (by simp [results, Tryz.results20, go_sem]) rfl ⟨r, L, A, rfl, HBE.out, ⟨HST.out, stepO_nonl (by rw [← HRR.out]; exact HIX.out)⟩, HGE.out⟩
    · have HIX : Hid (Lib.indexB R ⟨#[10]⟩ = (k : Int)) := Lib.hid hix
      have hnl := nl_at hix
      have HK : Hid (A + k + 1 ≤ D) := Lib.hid (by have := hnl.1; have := HRS.out; omega)
      have HKD : Hid (A + k + 1 ≤ d.size) := Lib.hid (by have := HK.out; have := HDD.out; omega)
      have HKE : Hid (A + k ≤ d.size) := Lib.hid (by have := HKD.out; omega)
      have HLN : Hid (R.extract 0 k = d.extract A (A + k)) := Lib.hid (by rw [HRR.out]; exact ext_ext HKE.out)
      have HXE : Hid (R.extract 0 (k + 1) = d.extract A (A + k + 1)) := Lib.hid (by rw [HRR.out]; exact ext_ext (by have := HKD.out; omega))
      have HAK : Hid (IntKind.i64.wrap ((A : Int) + (k : Int)) = ((A + k : Nat) : Int)) := Lib.hid (by have := HK.out; rw [IntKind.wrap_i64]; omega)
      have HLS : Hid ((R.extract 0 k).size ≤ 20001) := Lib.hid (by rw [ext_len (by have := HK.out; have := HRS.out; omega)]; have := HK.out; omega)
      have q0 : (0 : Int) ≤ (k : Int) := by omega
      have q1 : ¬ (k : Int) < 0 := by omega
      have q2 : (A : Int) + (k : Int) < (D : Int) := by have := HK.out; omega
      clear hix hnl
      by_cases h4 : (pcs kSp (R.extract 0 k)).length = 4
      · obtain ⟨p0, p1, p2, p3, hp4⟩ : ∃ p0 p1 p2 p3, pcs kSp (R.extract 0 k) = [p0, p1, p2, p3] := by
          cases e : pcs kSp (R.extract 0 k) with
          | nil => rw [e] at h4; cases h4
          | cons x1 l1 => cases l1 with
            | nil => rw [e] at h4; cases h4
            | cons x2 l2 => cases l2 with
              | nil => rw [e] at h4; cases h4
              | cons x3 l3 => cases l3 with
                | nil => rw [e] at h4; cases h4
                | cons x4 l4 => cases l4 with
                  | nil => exact ⟨_, _, _, _, rfl⟩
                  | cons x5 l5 => rw [e] at h4; simp at h4
        have HP4 := Lib.hid hp4
        have hsz : p1.size ≤ 3000 ∧ p2.size ≤ 3000 := by
          have h5 := congrArg List.length (pcs_four hp4).1
          have h6 : (R.extract 0 k).data.toList.length = (R.extract 0 k).size := Array.length_toList
          have h7 : p1.data.toList.length = p1.size := Array.length_toList
          have h8 : p2.data.toList.length = p2.size := Array.length_toList
          rw [h6, ext_len (by have := HK.out; have := HRS.out; omega)] at h5
          simp only [List.length_append, List.length_cons, h7, h8] at h5
          have := HK.out
          omega
        have HPS := Lib.hid hsz.1
        have HP2 : Hid (p2.size ≤ 20001) := Lib.hid (by omega)
        clear hp4 hsz h4
        cases hat : numR p2 with
        | some n1 =>
          have HAT := Lib.hid hat
          obtain ⟨X, hX⟩ : ∃ X, X = R.extract 0 (k + 1) := ⟨_, rfl⟩
          obtain ⟨L', hL'⟩ : ∃ L', L' = addL L p1 n1 := ⟨_, rfl⟩
          obtain ⟨C, hC⟩ : ∃ C, C = addC L p1 n1 := ⟨_, rfl⟩
          have HC := Lib.hid hC.symm
          have HLL := Lib.hid hL'
          clear hL'
          have HX : Hid (X = d.extract A (A + k + 1)) := Lib.hid (by rw [hX, HXE.out])
          have HXR : Hid (X = R.extract 0 (k + 1)) := Lib.hid hX
          have HATO := Lib.hid (numR_some hat).1
          have HBL : Hid (Bd (L.length : Int)) := Lib.hid (by have := HOK.out.1; unfold Bd; omega)
          have HL5 : Hid (L.length ≤ 500) := Lib.hid HOK.out.1
          have HBN : Hid (Bd n1) := Lib.hid (atoi_bd HATO.out)
          have HNO : Hid (numOf p2 = n1) := Lib.hid (numOf_some hat)
          clear hX hat
          by_cases hj : jline (L.length : Int) (p1, n1) = X
          · have HNE := Lib.hid hj
            clear hj
            by_cases hadd : addC L p1 n1 = 0
            · have HAD := Lib.hid hadd
              have HC0 : Hid (C = 0) := Lib.hid (by rw [hC]; exact hadd)
              clear hadd hC
              go_upto_region 10 with (first
                | (refine wpList_sufT (by rfl) (.tmp 12) (.tmp 13) (by rfl) (by rfl) (by rfl) (i := A) HAD0.out ?_; rw [← HRR.out])
                | (go_at_call 33; refine (index_any R ⟨#[10]⟩ HRL.out _ (HEN.out.gr HGE.out)).mono ?_; rintro e w2 ⟨rfl, rfl⟩; rw [HIX.out])
                | (refine wpList_midT (by rfl) (.tmp 20) (.tmp 21) (.tmp 24) (by rfl) (by rfl) (by rfl) (by first | rfl | exact congrArg (Value.int IntKind.i64) HAK.out) (i := A) (k := A + k) (Nat.le_add_right _ _) HKE.out ?_; rw [← HLN.out])
                | (go_at_call 31; refine (split_any (R.extract 0 k) HLS.out _ (HEN.out.gr HGE.out)).mono ?_; rintro e w3 ⟨g, rfl, hp3, hg3⟩; rw [HP4.out] at hp3; rw [HP4.out, show ([p0, p1, p2, p3] : List ByteArray).length = 4 from rfl]; have k2 : w3.cell? ⟨g, 2, none⟩ = some (.string p2) := hp3.at_ (k := 2) (show 2 < 4 by decide); have HP3 := Lib.hid hp3; have HBE3 := Lib.hid (HBE.out.gr hg3); have HGE3 := Lib.hid (HGE.out.trans hg3); clear hp3 hg3)
                | (go_at_call 34; refine (rnumber_any p2 HP2.out _ (HEN.out.gr HGE3.out)).mono ?_; rintro e w5 ⟨rfl, hg5⟩; have HB5 := Lib.hid (HBE3.out.gr hg5); have HG5 := Lib.hid (HGE3.out.trans hg5); have HP5 := Lib.hid (HP3.out.gr hg5); rw [HAT.out, HNO.out, show (some n1).isSome = true from rfl]; clear hg5))
              obtain ⟨v5, hv5⟩ := HB5.out
              obtain ⟨la, lc, rfl⟩ := hv5.shape
              have HR5 := Lib.hid hv5
              clear hv5 HBE HGE HB5 k2
              refine wp_region_w (n := 31) (fun G W' => IOr w n0 r g L L' (.slice la L.length lc) [p0, p1, p2, p3] (G 29) W') [.bool true, .bool false, .bool false, .pointer (some ⟨r, 0, none⟩), .pointer (some ⟨r, 0, none⟩), .pointer (some ⟨r, 0, none⟩), .slice la L.length lc, .int .i64 (L.length : Int), .slice (some ⟨g, 0, none⟩) 4 4, .pointer (some ⟨g, 0 + 1, none⟩), .string p1, .int .i64 n1, .agg #[.string p1, .int .i64 n1], .string (jline (L.length : Int) (p1, n1)), .string d, .int .i64 (A : Int), .int .i64 (A : Int), .int .i64 (k : Int), .int .i64 ((A + k : Nat) : Int), .int .i64 ((A + k + 1 : Nat) : Int), .string X, .bool false, .bool false, .bool false, .pointer (some ⟨r, 0, none⟩), .slice (some ⟨g, 0, none⟩) 4 4, .pointer (some ⟨g, 0 + 1, none⟩), .string p1, .int .i64 n1, .int .i64 C, .bool false] [39, 40, 41, 42, 43, 44, 45, 46, 47, 48, 49, 50, 51, 52, 53, 54, 55, 56, 57, 58, 59, 60, 61, 62, 63, 64, 65, 66, 67, 68, 69] ?_ (by kernel_rfl) (by kernel_rfl) (by kernel_rfl) ?_ ?_
              · exact ⟨fun _ => HR5.out.gr ((Gr.refl _).drew), fun e => absurd e (by decide), HP5.out.gr ((Gr.refl _).drew), HG5.out.trans ((Gr.refl _).drew)⟩
              · intro G i' o' ac w1' hi' ho hA hI
                match i', hi' with
                | 0, _ =>
                  obtain rfl := Option.some.inj ho
                  exact w_val (w_plain rfl) (s_move rfl (show ac.eval (.tmp 9) = .bool true from hA.other 9 (by decide))) rfl hI
                | 1, _ =>
                  obtain rfl := Option.some.inj ho
                  exact w_val (w_plain rfl) (s_not rfl (hA.dep 0 (by kernel_rfl) (by decide))) rfl hI
                | 2, _ =>
                  obtain rfl := Option.some.inj ho
                  exact w_val (w_plain rfl) (s_move rfl (hA.dep 1 (by kernel_rfl) (by decide))) rfl hI
                | 3, _ =>
                  obtain rfl := Option.some.inj ho
                  exact w_val (w_yes rfl (hA.dep 2 (by kernel_rfl) (by decide))) (s_move rfl (show ac.eval (.tmp 4) = .pointer (some ⟨r, 0, none⟩) from hA.other 4 (by decide))) rfl hI
                | 4, _ =>
                  obtain rfl := Option.some.inj ho
                  exact w_val (w_yes rfl (hA.dep 2 (by kernel_rfl) (by decide))) (s_nil rfl (hA.dep 3 (by kernel_rfl) (by decide))) rfl hI
                | 5, _ =>
                  obtain rfl := Option.some.inj ho
                  exact w_val (w_yes rfl (hA.dep 2 (by kernel_rfl) (by decide))) (s_frb rfl (hA.dep 4 (by kernel_rfl) (by decide))) rfl hI
                | 6, _ =>
                  obtain rfl := Option.some.inj ho
                  have hno : G 29 = false := by
                    cases e : G 29 with
                    | false => rfl
                    | true =>
                      have a1 := hA.closed 29 23 e (by kernel_rfl) (by decide)
                      have a2 := hA.closed 23 22 a1 (by kernel_rfl) (by decide)
                      have a3 := hA.closed 22 21 a2 (by kernel_rfl) (by decide)
                      have a4 := hA.closed 21 13 a3 (by kernel_rfl) (by decide)
                      have a5 := hA.closed 13 7 a4 (by kernel_rfl) (by decide)
                      have a6 := hA.closed 7 6 a5 (by kernel_rfl) (by decide)
                      have a7 := hA.self
                      rw [a7] at a6
                      cases a6
                  have hI0 : IOr w n0 r g L L' (.slice la L.length lc) [p0, p1, p2, p3] (G 29) w1' := hI
                  rw [hno] at hI0
                  exact w_val (w_yes rfl (hA.dep 2 (by kernel_rfl) (by decide))) (s_loadE ⟨_, _, _, rfl⟩ rfl (hA.dep 5 (by kernel_rfl) (by decide)) (hI0.r0 rfl).c0) rfl hI
                | 7, _ =>
                  obtain rfl := Option.some.inj ho
                  exact w_val (w_yes rfl (hA.dep 2 (by kernel_rfl) (by decide))) (s_lenE rfl (hA.dep 6 (by kernel_rfl) (by decide)) HL5.out) rfl hI
                | 8, _ =>
                  obtain rfl := Option.some.inj ho
                  exact w_val (w_yes rfl (hA.dep 2 (by kernel_rfl) (by decide))) (s_move rfl (show ac.eval (.tmp 7) = .slice (some ⟨g, 0, none⟩) 4 4 from hA.other 7 (by decide))) rfl hI
                | 9, _ =>
                  obtain rfl := Option.some.inj ho
                  exact w_val (w_yes rfl (hA.dep 2 (by kernel_rfl) (by decide))) (s_idxS rfl (hA.dep 8 (by kernel_rfl) (by decide)) rfl (show 1 < 4 by decide)) rfl hI
                | 10, _ =>
                  obtain rfl := Option.some.inj ho
                  exact w_val (w_yes rfl (hA.dep 2 (by kernel_rfl) (by decide))) (s_loadT rfl (hA.dep 9 (by kernel_rfl) (by decide)) (hI.p.at_ (k := 1) (show 1 < 4 by decide))) rfl hI
                | 11, _ =>
                  obtain rfl := Option.some.inj ho
                  exact w_val (w_yes rfl (hA.dep 2 (by kernel_rfl) (by decide))) (s_move rfl (show ac.eval (.tmp 8) = .int .i64 n1 from hA.other 8 (by decide))) rfl hI
                | 12, _ =>
                  obtain rfl := Option.some.inj ho
                  exact w_val (w_yes rfl (hA.dep 2 (by kernel_rfl) (by decide))) (s_buildE rfl (hA.dep 10 (by kernel_rfl) (by decide)) (hA.dep 11 (by kernel_rfl) (by decide))) rfl hI
                | 13, _ =>
                  obtain rfl := Option.some.inj ho
                  refine w_call (w_yes rfl (hA.dep 2 (by kernel_rfl) (by decide))) (s_fn2 en_rline rfl rfl (hA.dep 7 (by kernel_rfl) (by decide)) (hA.dep 12 (by kernel_rfl) (by decide))) ?_
                  refine (rline_any _ n1 p1 HBL.out HBN.out HPS.out w1' (HTB.out.gr hI.gr)).mono ?_
                  rintro e w2 ⟨rfl, h2⟩
                  exact ⟨rfl, hI.on h2⟩
                | 14, _ =>
                  obtain rfl := Option.some.inj ho
                  exact w_val (w_yes rfl (hA.dep 2 (by kernel_rfl) (by decide))) (s_move rfl (show ac.eval (.tmp 0) = .string d from hA.other 0 (by decide))) rfl hI
                | 15, _ =>
                  obtain rfl := Option.some.inj ho
                  exact w_val (w_yes rfl (hA.dep 2 (by kernel_rfl) (by decide))) (s_move rfl (show ac.eval (.tmp 5) = .int .i64 (A : Int) from hA.other 5 (by decide))) rfl hI
                | 16, _ =>
                  obtain rfl := Option.some.inj ho
                  exact w_val (w_yes rfl (hA.dep 2 (by kernel_rfl) (by decide))) (s_move rfl (show ac.eval (.tmp 5) = .int .i64 (A : Int) from hA.other 5 (by decide))) rfl hI
                | 17, _ =>
                  obtain rfl := Option.some.inj ho
                  exact w_val (w_yes rfl (hA.dep 2 (by kernel_rfl) (by decide))) (s_move rfl (show ac.eval (.tmp 6) = .int .i64 (k : Int) from hA.other 6 (by decide))) rfl hI
                | 18, _ =>
                  obtain rfl := Option.some.inj ho
                  exact w_val (w_yes rfl (hA.dep 2 (by kernel_rfl) (by decide))) (s_addN rfl (hA.dep 16 (by kernel_rfl) (by decide)) (hA.dep 17 (by kernel_rfl) (by decide)) (by omega) (by omega) (by omega)) rfl hI
                | 19, _ =>
                  obtain rfl := Option.some.inj ho
                  exact w_val (w_yes rfl (hA.dep 2 (by kernel_rfl) (by decide))) (s_addN rfl (hA.dep 18 (by kernel_rfl) (by decide)) rfl (by omega) (by omega) (by omega)) rfl hI
                | 20, _ =>
                  obtain rfl := Option.some.inj ho
                  exact w_val (w_yes rfl (hA.dep 2 (by kernel_rfl) (by decide))) (s_subT rfl (hA.dep 14 (by kernel_rfl) (by decide)) (hA.dep 15 (by kernel_rfl) (by decide)) (hA.dep 19 (by kernel_rfl) (by decide)) (by omega) HKD.out) (by rw [HX.out]; rfl) hI
                | 21, _ =>
                  obtain rfl := Option.some.inj ho
                  exact w_val (w_yes rfl (hA.dep 2 (by kernel_rfl) (by decide))) (s_neS0 rfl (hA.dep 13 (by kernel_rfl) (by decide)) (hA.dep 20 (by kernel_rfl) (by decide)) HNE.out) rfl hI
                | 22, _ =>
                  obtain rfl := Option.some.inj ho
                  exact w_val (w_plain rfl) (s_pickT rfl (hA.dep 2 (by kernel_rfl) (by decide)) (hA.dep 21 (by kernel_rfl) (by decide))) rfl hI
                | 23, _ =>
                  obtain rfl := Option.some.inj ho
                  exact w_val (w_plain rfl) (s_move rfl (hA.dep 22 (by kernel_rfl) (by decide))) rfl hI
                | 24, _ =>
                  obtain rfl := Option.some.inj ho
                  exact w_val (w_yes rfl (hA.dep 23 (by kernel_rfl) (by decide))) (s_move rfl (show ac.eval (.tmp 4) = .pointer (some ⟨r, 0, none⟩) from hA.other 4 (by decide))) rfl hI
                | 25, _ =>
                  obtain rfl := Option.some.inj ho
                  exact w_val (w_yes rfl (hA.dep 23 (by kernel_rfl) (by decide))) (s_move rfl (show ac.eval (.tmp 7) = .slice (some ⟨g, 0, none⟩) 4 4 from hA.other 7 (by decide))) rfl hI
                | 26, _ =>
                  obtain rfl := Option.some.inj ho
                  exact w_val (w_yes rfl (hA.dep 23 (by kernel_rfl) (by decide))) (s_idxS rfl (hA.dep 25 (by kernel_rfl) (by decide)) rfl (show 1 < 4 by decide)) rfl hI
                | 27, _ =>
                  obtain rfl := Option.some.inj ho
                  exact w_val (w_yes rfl (hA.dep 23 (by kernel_rfl) (by decide))) (s_loadT rfl (hA.dep 26 (by kernel_rfl) (by decide)) (hI.p.at_ (k := 1) (show 1 < 4 by decide))) rfl hI
                | 28, _ =>
                  obtain rfl := Option.some.inj ho
                  exact w_val (w_yes rfl (hA.dep 23 (by kernel_rfl) (by decide))) (s_move rfl (show ac.eval (.tmp 8) = .int .i64 n1 from hA.other 8 (by decide))) rfl hI
                | 29, _ =>
                  obtain rfl := Option.some.inj ho
                  refine w_call (w_yes rfl (hA.dep 23 (by kernel_rfl) (by decide))) (s_fn3 en_radd rfl rfl (hA.dep 24 (by kernel_rfl) (by decide)) (hA.dep 27 (by kernel_rfl) (by decide)) (hA.dep 28 (by kernel_rfl) (by decide))) ?_
                  have hI0 : IOr w n0 r g L L' (.slice la L.length lc) [p0, p1, p2, p3] (G 29) w1' := hI
                  have hself := hA.self
                  rw [hself] at hI0
                  have hR0 : RBok w1' n0 r L := ⟨_, hI0.r0 rfl⟩
                  refine (radd_any hR0 p1 n1 HPS.out).mono ?_
                  rintro e w2 ⟨rfl, h2, h3⟩
                  exact ⟨by rw [HC.out]; rfl, fun e => absurd (show true = false from e) (by decide), fun _ => by rw [HLL.out]; exact h2, hI0.p.keepR hR0 h3, h3.gr hI0.gr HN0.out hR0.low⟩
                | 30, _ =>
                  obtain rfl := Option.some.inj ho
                  exact w_val (w_yes rfl (hA.dep 23 (by kernel_rfl) (by decide))) (s_neE0 rfl (hA.dep 29 (by kernel_rfl) (by decide)) HC0.out) rfl hI
                | k' + 31, hk' => exact absurd (show k' + 31 < 31 from hk') (by omega)
              · intro G w6 hG hI
                have hI0 : IOr w n0 r g L L' (.slice la L.length lc) [p0, p1, p2, p3] (G 29) w6 := hI
                have e29 := hG 29 (by omega)
                rw [e29] at hI0
                clear e29
                have HBE : Hid (RBok w6 n0 r L') := Lib.hid (hI0.r1 rfl)
                have HGE : Hid (Gr w w6) := Lib.hid hI0.gr
                clear hI hI0 hG
                simp only [putN, List.drop_succ_cons, List.drop_zero, List.getElem?_cons_succ, List.getElem?_cons_zero, List.getD_cons_succ, List.getD_cons_zero]
                go_wp2
                go_roundw
                case rel => exact ⟨L', A + k + 1, by go_num, Lib.hid ⟨HBE.out, HGE.out, by
                  obtain ⟨m, hm⟩ := HST.out
                  refine ⟨m + 1, ?_⟩
                  show (stO d m).bind _ = _
                  rw [hm]
                  show stepO d A L = _
                  rw [stepO_ok (by rw [← HRR.out]; exact HIX.out) (by rw [← HRR.out]; exact HP4.out) HATO.out (by rw [← HRR.out, ← HXR.out]; exact HNE.out) HAD.out, HLL.out, addL_yes HAD.out], HKD.out⟩⟩
                case measure => simp [intOf]; omega
            · have HAD := Lib.hid hadd
              have HC0 : Hid (C ≠ 0) := Lib.hid (by rw [hC]; exact hadd)
              clear hadd hC
              go_upto_region 10 with (first
                | (refine wpList_sufT (by rfl) (.tmp 12) (.tmp 13) (by rfl) (by rfl) (by rfl) (i := A) HAD0.out ?_; rw [← HRR.out])
                | (go_at_call 33; refine (index_any R ⟨#[10]⟩ HRL.out _ (HEN.out.gr HGE.out)).mono ?_; rintro e w2 ⟨rfl, rfl⟩; rw [HIX.out])
                | (refine wpList_midT (by rfl) (.tmp 20) (.tmp 21) (.tmp 24) (by rfl) (by rfl) (by rfl) (by first | rfl | exact congrArg (Value.int IntKind.i64) HAK.out) (i := A) (k := A + k) (Nat.le_add_right _ _) HKE.out ?_; rw [← HLN.out])
                | (go_at_call 31; refine (split_any (R.extract 0 k) HLS.out _ (HEN.out.gr HGE.out)).mono ?_; rintro e w3 ⟨g, rfl, hp3, hg3⟩; rw [HP4.out] at hp3; rw [HP4.out, show ([p0, p1, p2, p3] : List ByteArray).length = 4 from rfl]; have k2 : w3.cell? ⟨g, 2, none⟩ = some (.string p2) := hp3.at_ (k := 2) (show 2 < 4 by decide); have HP3 := Lib.hid hp3; have HBE3 := Lib.hid (HBE.out.gr hg3); have HGE3 := Lib.hid (HGE.out.trans hg3); clear hp3 hg3)
                | (go_at_call 34; refine (rnumber_any p2 HP2.out _ (HEN.out.gr HGE3.out)).mono ?_; rintro e w5 ⟨rfl, hg5⟩; have HB5 := Lib.hid (HBE3.out.gr hg5); have HG5 := Lib.hid (HGE3.out.trans hg5); have HP5 := Lib.hid (HP3.out.gr hg5); rw [HAT.out, HNO.out, show (some n1).isSome = true from rfl]; clear hg5))
              obtain ⟨v5, hv5⟩ := HB5.out
              obtain ⟨la, lc, rfl⟩ := hv5.shape
              have HR5 := Lib.hid hv5
              clear hv5 HBE HGE HB5 k2
              refine wp_region_w (n := 31) (fun G W' => IOr w n0 r g L L' (.slice la L.length lc) [p0, p1, p2, p3] (G 29) W') [.bool true, .bool false, .bool false, .pointer (some ⟨r, 0, none⟩), .pointer (some ⟨r, 0, none⟩), .pointer (some ⟨r, 0, none⟩), .slice la L.length lc, .int .i64 (L.length : Int), .slice (some ⟨g, 0, none⟩) 4 4, .pointer (some ⟨g, 0 + 1, none⟩), .string p1, .int .i64 n1, .agg #[.string p1, .int .i64 n1], .string (jline (L.length : Int) (p1, n1)), .string d, .int .i64 (A : Int), .int .i64 (A : Int), .int .i64 (k : Int), .int .i64 ((A + k : Nat) : Int), .int .i64 ((A + k + 1 : Nat) : Int), .string X, .bool false, .bool false, .bool false, .pointer (some ⟨r, 0, none⟩), .slice (some ⟨g, 0, none⟩) 4 4, .pointer (some ⟨g, 0 + 1, none⟩), .string p1, .int .i64 n1, .int .i64 C, .bool true] [39, 40, 41, 42, 43, 44, 45, 46, 47, 48, 49, 50, 51, 52, 53, 54, 55, 56, 57, 58, 59, 60, 61, 62, 63, 64, 65, 66, 67, 68, 69] ?_ (by kernel_rfl) (by kernel_rfl) (by kernel_rfl) ?_ ?_
              · exact ⟨fun _ => HR5.out.gr ((Gr.refl _).drew), fun e => absurd e (by decide), HP5.out.gr ((Gr.refl _).drew), HG5.out.trans ((Gr.refl _).drew)⟩
              · intro G i' o' ac w1' hi' ho hA hI
                match i', hi' with
                | 0, _ =>
                  obtain rfl := Option.some.inj ho
                  exact w_val (w_plain rfl) (s_move rfl (show ac.eval (.tmp 9) = .bool true from hA.other 9 (by decide))) rfl hI
                | 1, _ =>
                  obtain rfl := Option.some.inj ho
                  exact w_val (w_plain rfl) (s_not rfl (hA.dep 0 (by kernel_rfl) (by decide))) rfl hI
                | 2, _ =>
                  obtain rfl := Option.some.inj ho
                  exact w_val (w_plain rfl) (s_move rfl (hA.dep 1 (by kernel_rfl) (by decide))) rfl hI
                | 3, _ =>
                  obtain rfl := Option.some.inj ho
                  exact w_val (w_yes rfl (hA.dep 2 (by kernel_rfl) (by decide))) (s_move rfl (show ac.eval (.tmp 4) = .pointer (some ⟨r, 0, none⟩) from hA.other 4 (by decide))) rfl hI
                | 4, _ =>
                  obtain rfl := Option.some.inj ho
                  exact w_val (w_yes rfl (hA.dep 2 (by kernel_rfl) (by decide))) (s_nil rfl (hA.dep 3 (by kernel_rfl) (by decide))) rfl hI
                | 5, _ =>
                  obtain rfl := Option.some.inj ho
                  exact w_val (w_yes rfl (hA.dep 2 (by kernel_rfl) (by decide))) (s_frb rfl (hA.dep 4 (by kernel_rfl) (by decide))) rfl hI
                | 6, _ =>
                  obtain rfl := Option.some.inj ho
                  have hno : G 29 = false := by
                    cases e : G 29 with
                    | false => rfl
                    | true =>
                      have a1 := hA.closed 29 23 e (by kernel_rfl) (by decide)
                      have a2 := hA.closed 23 22 a1 (by kernel_rfl) (by decide)
                      have a3 := hA.closed 22 21 a2 (by kernel_rfl) (by decide)
                      have a4 := hA.closed 21 13 a3 (by kernel_rfl) (by decide)
                      have a5 := hA.closed 13 7 a4 (by kernel_rfl) (by decide)
                      have a6 := hA.closed 7 6 a5 (by kernel_rfl) (by decide)
                      have a7 := hA.self
                      rw [a7] at a6
                      cases a6
                  have hI0 : IOr w n0 r g L L' (.slice la L.length lc) [p0, p1, p2, p3] (G 29) w1' := hI
                  rw [hno] at hI0
                  exact w_val (w_yes rfl (hA.dep 2 (by kernel_rfl) (by decide))) (s_loadE ⟨_, _, _, rfl⟩ rfl (hA.dep 5 (by kernel_rfl) (by decide)) (hI0.r0 rfl).c0) rfl hI
                | 7, _ =>
                  obtain rfl := Option.some.inj ho
                  exact w_val (w_yes rfl (hA.dep 2 (by kernel_rfl) (by decide))) (s_lenE rfl (hA.dep 6 (by kernel_rfl) (by decide)) HL5.out) rfl hI
                | 8, _ =>
                  obtain rfl := Option.some.inj ho
                  exact w_val (w_yes rfl (hA.dep 2 (by kernel_rfl) (by decide))) (s_move rfl (show ac.eval (.tmp 7) = .slice (some ⟨g, 0, none⟩) 4 4 from hA.other 7 (by decide))) rfl hI
                | 9, _ =>
                  obtain rfl := Option.some.inj ho
                  exact w_val (w_yes rfl (hA.dep 2 (by kernel_rfl) (by decide))) (s_idxS rfl (hA.dep 8 (by kernel_rfl) (by decide)) rfl (show 1 < 4 by decide)) rfl hI
                | 10, _ =>
                  obtain rfl := Option.some.inj ho
                  exact w_val (w_yes rfl (hA.dep 2 (by kernel_rfl) (by decide))) (s_loadT rfl (hA.dep 9 (by kernel_rfl) (by decide)) (hI.p.at_ (k := 1) (show 1 < 4 by decide))) rfl hI
                | 11, _ =>
                  obtain rfl := Option.some.inj ho
                  exact w_val (w_yes rfl (hA.dep 2 (by kernel_rfl) (by decide))) (s_move rfl (show ac.eval (.tmp 8) = .int .i64 n1 from hA.other 8 (by decide))) rfl hI
                | 12, _ =>
                  obtain rfl := Option.some.inj ho
                  exact w_val (w_yes rfl (hA.dep 2 (by kernel_rfl) (by decide))) (s_buildE rfl (hA.dep 10 (by kernel_rfl) (by decide)) (hA.dep 11 (by kernel_rfl) (by decide))) rfl hI
                | 13, _ =>
                  obtain rfl := Option.some.inj ho
                  refine w_call (w_yes rfl (hA.dep 2 (by kernel_rfl) (by decide))) (s_fn2 en_rline rfl rfl (hA.dep 7 (by kernel_rfl) (by decide)) (hA.dep 12 (by kernel_rfl) (by decide))) ?_
                  refine (rline_any _ n1 p1 HBL.out HBN.out HPS.out w1' (HTB.out.gr hI.gr)).mono ?_
                  rintro e w2 ⟨rfl, h2⟩
                  exact ⟨rfl, hI.on h2⟩
                | 14, _ =>
                  obtain rfl := Option.some.inj ho
                  exact w_val (w_yes rfl (hA.dep 2 (by kernel_rfl) (by decide))) (s_move rfl (show ac.eval (.tmp 0) = .string d from hA.other 0 (by decide))) rfl hI
                | 15, _ =>
                  obtain rfl := Option.some.inj ho
                  exact w_val (w_yes rfl (hA.dep 2 (by kernel_rfl) (by decide))) (s_move rfl (show ac.eval (.tmp 5) = .int .i64 (A : Int) from hA.other 5 (by decide))) rfl hI
                | 16, _ =>
                  obtain rfl := Option.some.inj ho
                  exact w_val (w_yes rfl (hA.dep 2 (by kernel_rfl) (by decide))) (s_move rfl (show ac.eval (.tmp 5) = .int .i64 (A : Int) from hA.other 5 (by decide))) rfl hI
                | 17, _ =>
                  obtain rfl := Option.some.inj ho
                  exact w_val (w_yes rfl (hA.dep 2 (by kernel_rfl) (by decide))) (s_move rfl (show ac.eval (.tmp 6) = .int .i64 (k : Int) from hA.other 6 (by decide))) rfl hI
                | 18, _ =>
                  obtain rfl := Option.some.inj ho
                  exact w_val (w_yes rfl (hA.dep 2 (by kernel_rfl) (by decide))) (s_addN rfl (hA.dep 16 (by kernel_rfl) (by decide)) (hA.dep 17 (by kernel_rfl) (by decide)) (by omega) (by omega) (by omega)) rfl hI
                | 19, _ =>
                  obtain rfl := Option.some.inj ho
                  exact w_val (w_yes rfl (hA.dep 2 (by kernel_rfl) (by decide))) (s_addN rfl (hA.dep 18 (by kernel_rfl) (by decide)) rfl (by omega) (by omega) (by omega)) rfl hI
                | 20, _ =>
                  obtain rfl := Option.some.inj ho
                  exact w_val (w_yes rfl (hA.dep 2 (by kernel_rfl) (by decide))) (s_subT rfl (hA.dep 14 (by kernel_rfl) (by decide)) (hA.dep 15 (by kernel_rfl) (by decide)) (hA.dep 19 (by kernel_rfl) (by decide)) (by omega) HKD.out) (by rw [HX.out]; rfl) hI
                | 21, _ =>
                  obtain rfl := Option.some.inj ho
                  exact w_val (w_yes rfl (hA.dep 2 (by kernel_rfl) (by decide))) (s_neS0 rfl (hA.dep 13 (by kernel_rfl) (by decide)) (hA.dep 20 (by kernel_rfl) (by decide)) HNE.out) rfl hI
                | 22, _ =>
                  obtain rfl := Option.some.inj ho
                  exact w_val (w_plain rfl) (s_pickT rfl (hA.dep 2 (by kernel_rfl) (by decide)) (hA.dep 21 (by kernel_rfl) (by decide))) rfl hI
                | 23, _ =>
                  obtain rfl := Option.some.inj ho
                  exact w_val (w_plain rfl) (s_move rfl (hA.dep 22 (by kernel_rfl) (by decide))) rfl hI
                | 24, _ =>
                  obtain rfl := Option.some.inj ho
                  exact w_val (w_yes rfl (hA.dep 23 (by kernel_rfl) (by decide))) (s_move rfl (show ac.eval (.tmp 4) = .pointer (some ⟨r, 0, none⟩) from hA.other 4 (by decide))) rfl hI
                | 25, _ =>
                  obtain rfl := Option.some.inj ho
                  exact w_val (w_yes rfl (hA.dep 23 (by kernel_rfl) (by decide))) (s_move rfl (show ac.eval (.tmp 7) = .slice (some ⟨g, 0, none⟩) 4 4 from hA.other 7 (by decide))) rfl hI
                | 26, _ =>
                  obtain rfl := Option.some.inj ho
                  exact w_val (w_yes rfl (hA.dep 23 (by kernel_rfl) (by decide))) (s_idxS rfl (hA.dep 25 (by kernel_rfl) (by decide)) rfl (show 1 < 4 by decide)) rfl hI
                | 27, _ =>
                  obtain rfl := Option.some.inj ho
                  exact w_val (w_yes rfl (hA.dep 23 (by kernel_rfl) (by decide))) (s_loadT rfl (hA.dep 26 (by kernel_rfl) (by decide)) (hI.p.at_ (k := 1) (show 1 < 4 by decide))) rfl hI
                | 28, _ =>
                  obtain rfl := Option.some.inj ho
                  exact w_val (w_yes rfl (hA.dep 23 (by kernel_rfl) (by decide))) (s_move rfl (show ac.eval (.tmp 8) = .int .i64 n1 from hA.other 8 (by decide))) rfl hI
                | 29, _ =>
                  obtain rfl := Option.some.inj ho
                  refine w_call (w_yes rfl (hA.dep 23 (by kernel_rfl) (by decide))) (s_fn3 en_radd rfl rfl (hA.dep 24 (by kernel_rfl) (by decide)) (hA.dep 27 (by kernel_rfl) (by decide)) (hA.dep 28 (by kernel_rfl) (by decide))) ?_
                  have hI0 : IOr w n0 r g L L' (.slice la L.length lc) [p0, p1, p2, p3] (G 29) w1' := hI
                  have hself := hA.self
                  rw [hself] at hI0
                  have hR0 : RBok w1' n0 r L := ⟨_, hI0.r0 rfl⟩
                  refine (radd_any hR0 p1 n1 HPS.out).mono ?_
                  rintro e w2 ⟨rfl, h2, h3⟩
                  exact ⟨by rw [HC.out]; rfl, fun e => absurd (show true = false from e) (by decide), fun _ => by rw [HLL.out]; exact h2, hI0.p.keepR hR0 h3, h3.gr hI0.gr HN0.out hR0.low⟩
                | 30, _ =>
                  obtain rfl := Option.some.inj ho
                  exact w_val (w_yes rfl (hA.dep 23 (by kernel_rfl) (by decide))) (s_neE rfl (hA.dep 29 (by kernel_rfl) (by decide)) HC0.out) rfl hI
                | k' + 31, hk' => exact absurd (show k' + 31 < 31 from hk') (by omega)
              · intro G w6 hG hI
                have hI0 : IOr w n0 r g L L' (.slice la L.length lc) [p0, p1, p2, p3] (G 29) w6 := hI
                have e29 := hG 29 (by omega)
                rw [e29] at hI0
                clear e29
                have HBE : Hid (RBok w6 n0 r L) := Lib.hid (by have := hI0.r1 rfl; rw [HLL.out] at this; rw [addL_no HAD.out] at this; exact this)
                have HGE : Hid (Gr w w6) := Lib.hid hI0.gr
                clear hI hI0 hG
                simp only [putN, List.drop_succ_cons, List.drop_zero, List.getElem?_cons_succ, List.getElem?_cons_zero, List.getD_cons_succ, List.getD_cons_zero]
                go_wp2
                exact bodyPost_ret (v := .tuple #[.pointer (some ⟨r, 0, none⟩), .int .i64 (A : Int)]) (by simp [results, Tryz.results20, go_sem]) rfl ⟨r, L, A, rfl, HBE.out, ⟨HST.out, stepO_add (by rw [← HRR.out]; exact HIX.out) (by rw [← HRR.out]; exact HP4.out) HATO.out HAD.out⟩, HGE.out⟩
          · have HNE : Hid (jline (L.length : Int) (p1, n1) ≠ X) := Lib.hid hj
            clear hj hC
            go_upto_region 10 with (first
              | (refine wpList_sufT (by rfl) (.tmp 12) (.tmp 13) (by rfl) (by rfl) (by rfl) (i := A) HAD0.out ?_; rw [← HRR.out])
              | (go_at_call 33; refine (index_any R ⟨#[10]⟩ HRL.out _ (HEN.out.gr HGE.out)).mono ?_; rintro e w2 ⟨rfl, rfl⟩; rw [HIX.out])
              | (refine wpList_midT (by rfl) (.tmp 20) (.tmp 21) (.tmp 24) (by rfl) (by rfl) (by rfl) (by first | rfl | exact congrArg (Value.int IntKind.i64) HAK.out) (i := A) (k := A + k) (Nat.le_add_right _ _) HKE.out ?_; rw [← HLN.out])
              | (go_at_call 31; refine (split_any (R.extract 0 k) HLS.out _ (HEN.out.gr HGE.out)).mono ?_; rintro e w3 ⟨g, rfl, hp3, hg3⟩; rw [HP4.out] at hp3; rw [HP4.out, show ([p0, p1, p2, p3] : List ByteArray).length = 4 from rfl]; have k2 : w3.cell? ⟨g, 2, none⟩ = some (.string p2) := hp3.at_ (k := 2) (show 2 < 4 by decide); have HP3 := Lib.hid hp3; have HBE3 := Lib.hid (HBE.out.gr hg3); have HGE3 := Lib.hid (HGE.out.trans hg3); clear hp3 hg3)
              | (go_at_call 34; refine (rnumber_any p2 HP2.out _ (HEN.out.gr HGE3.out)).mono ?_; rintro e w5 ⟨rfl, hg5⟩; have HB5 := Lib.hid (HBE3.out.gr hg5); have HG5 := Lib.hid (HGE3.out.trans hg5); have HP5 := Lib.hid (HP3.out.gr hg5); rw [HAT.out, HNO.out, show (some n1).isSome = true from rfl]; clear hg5))
            obtain ⟨v5, hv5⟩ := HB5.out
            obtain ⟨la, lc, rfl⟩ := hv5.shape
            have HR5 := Lib.hid hv5
            clear hv5 HBE HGE HB5 k2
            refine wp_region_w (n := 31) (fun G W' => IOr w n0 r g L L' (.slice la L.length lc) [p0, p1, p2, p3] (false) W') [.bool true, .bool false, .bool false, .pointer (some ⟨r, 0, none⟩), .pointer (some ⟨r, 0, none⟩), .pointer (some ⟨r, 0, none⟩), .slice la L.length lc, .int .i64 (L.length : Int), .slice (some ⟨g, 0, none⟩) 4 4, .pointer (some ⟨g, 0 + 1, none⟩), .string p1, .int .i64 n1, .agg #[.string p1, .int .i64 n1], .string (jline (L.length : Int) (p1, n1)), .string d, .int .i64 (A : Int), .int .i64 (A : Int), .int .i64 (k : Int), .int .i64 ((A + k : Nat) : Int), .int .i64 ((A + k + 1 : Nat) : Int), .string X, .bool true, .bool true, .bool true, undef, undef, undef, undef, undef, undef, undef] [39, 40, 41, 42, 43, 44, 45, 46, 47, 48, 49, 50, 51, 52, 53, 54, 55, 56, 57, 58, 59, 60, 61, 62, 63, 64, 65, 66, 67, 68, 69] ?_ (by kernel_rfl) (by kernel_rfl) (by kernel_rfl) ?_ ?_
            · exact ⟨fun _ => HR5.out.gr ((Gr.refl _).drew), fun e => absurd e (by decide), HP5.out.gr ((Gr.refl _).drew), HG5.out.trans ((Gr.refl _).drew)⟩
            · intro G i' o' ac w1' hi' ho hA hI
              match i', hi' with
              | 0, _ =>
                obtain rfl := Option.some.inj ho
                exact w_val (w_plain rfl) (s_move rfl (show ac.eval (.tmp 9) = .bool true from hA.other 9 (by decide))) rfl hI
              | 1, _ =>
                obtain rfl := Option.some.inj ho
                exact w_val (w_plain rfl) (s_not rfl (hA.dep 0 (by kernel_rfl) (by decide))) rfl hI
              | 2, _ =>
                obtain rfl := Option.some.inj ho
                exact w_val (w_plain rfl) (s_move rfl (hA.dep 1 (by kernel_rfl) (by decide))) rfl hI
              | 3, _ =>
                obtain rfl := Option.some.inj ho
                exact w_val (w_yes rfl (hA.dep 2 (by kernel_rfl) (by decide))) (s_move rfl (show ac.eval (.tmp 4) = .pointer (some ⟨r, 0, none⟩) from hA.other 4 (by decide))) rfl hI
              | 4, _ =>
                obtain rfl := Option.some.inj ho
                exact w_val (w_yes rfl (hA.dep 2 (by kernel_rfl) (by decide))) (s_nil rfl (hA.dep 3 (by kernel_rfl) (by decide))) rfl hI
              | 5, _ =>
                obtain rfl := Option.some.inj ho
                exact w_val (w_yes rfl (hA.dep 2 (by kernel_rfl) (by decide))) (s_frb rfl (hA.dep 4 (by kernel_rfl) (by decide))) rfl hI
              | 6, _ =>
                obtain rfl := Option.some.inj ho
                have hno : G 29 = false := by
                  cases e : G 29 with
                  | false => rfl
                  | true =>
                    have a1 := hA.closed 29 23 e (by kernel_rfl) (by decide)
                    have a2 := hA.closed 23 22 a1 (by kernel_rfl) (by decide)
                    have a3 := hA.closed 22 21 a2 (by kernel_rfl) (by decide)
                    have a4 := hA.closed 21 13 a3 (by kernel_rfl) (by decide)
                    have a5 := hA.closed 13 7 a4 (by kernel_rfl) (by decide)
                    have a6 := hA.closed 7 6 a5 (by kernel_rfl) (by decide)
                    have a7 := hA.self
                    rw [a7] at a6
                    cases a6
                have hI0 : IOr w n0 r g L L' (.slice la L.length lc) [p0, p1, p2, p3] false w1' := hI
                exact w_val (w_yes rfl (hA.dep 2 (by kernel_rfl) (by decide))) (s_loadE ⟨_, _, _, rfl⟩ rfl (hA.dep 5 (by kernel_rfl) (by decide)) (hI0.r0 rfl).c0) rfl hI
              | 7, _ =>
                obtain rfl := Option.some.inj ho
                exact w_val (w_yes rfl (hA.dep 2 (by kernel_rfl) (by decide))) (s_lenE rfl (hA.dep 6 (by kernel_rfl) (by decide)) HL5.out) rfl hI
              | 8, _ =>
                obtain rfl := Option.some.inj ho
                exact w_val (w_yes rfl (hA.dep 2 (by kernel_rfl) (by decide))) (s_move rfl (show ac.eval (.tmp 7) = .slice (some ⟨g, 0, none⟩) 4 4 from hA.other 7 (by decide))) rfl hI
              | 9, _ =>
                obtain rfl := Option.some.inj ho
                exact w_val (w_yes rfl (hA.dep 2 (by kernel_rfl) (by decide))) (s_idxS rfl (hA.dep 8 (by kernel_rfl) (by decide)) rfl (show 1 < 4 by decide)) rfl hI
              | 10, _ =>
                obtain rfl := Option.some.inj ho
                exact w_val (w_yes rfl (hA.dep 2 (by kernel_rfl) (by decide))) (s_loadT rfl (hA.dep 9 (by kernel_rfl) (by decide)) (hI.p.at_ (k := 1) (show 1 < 4 by decide))) rfl hI
              | 11, _ =>
                obtain rfl := Option.some.inj ho
                exact w_val (w_yes rfl (hA.dep 2 (by kernel_rfl) (by decide))) (s_move rfl (show ac.eval (.tmp 8) = .int .i64 n1 from hA.other 8 (by decide))) rfl hI
              | 12, _ =>
                obtain rfl := Option.some.inj ho
                exact w_val (w_yes rfl (hA.dep 2 (by kernel_rfl) (by decide))) (s_buildE rfl (hA.dep 10 (by kernel_rfl) (by decide)) (hA.dep 11 (by kernel_rfl) (by decide))) rfl hI
              | 13, _ =>
                obtain rfl := Option.some.inj ho
                refine w_call (w_yes rfl (hA.dep 2 (by kernel_rfl) (by decide))) (s_fn2 en_rline rfl rfl (hA.dep 7 (by kernel_rfl) (by decide)) (hA.dep 12 (by kernel_rfl) (by decide))) ?_
                refine (rline_any _ n1 p1 HBL.out HBN.out HPS.out w1' (HTB.out.gr hI.gr)).mono ?_
                rintro e w2 ⟨rfl, h2⟩
                exact ⟨rfl, hI.on h2⟩
              | 14, _ =>
                obtain rfl := Option.some.inj ho
                exact w_val (w_yes rfl (hA.dep 2 (by kernel_rfl) (by decide))) (s_move rfl (show ac.eval (.tmp 0) = .string d from hA.other 0 (by decide))) rfl hI
              | 15, _ =>
                obtain rfl := Option.some.inj ho
                exact w_val (w_yes rfl (hA.dep 2 (by kernel_rfl) (by decide))) (s_move rfl (show ac.eval (.tmp 5) = .int .i64 (A : Int) from hA.other 5 (by decide))) rfl hI
              | 16, _ =>
                obtain rfl := Option.some.inj ho
                exact w_val (w_yes rfl (hA.dep 2 (by kernel_rfl) (by decide))) (s_move rfl (show ac.eval (.tmp 5) = .int .i64 (A : Int) from hA.other 5 (by decide))) rfl hI
              | 17, _ =>
                obtain rfl := Option.some.inj ho
                exact w_val (w_yes rfl (hA.dep 2 (by kernel_rfl) (by decide))) (s_move rfl (show ac.eval (.tmp 6) = .int .i64 (k : Int) from hA.other 6 (by decide))) rfl hI
              | 18, _ =>
                obtain rfl := Option.some.inj ho
                exact w_val (w_yes rfl (hA.dep 2 (by kernel_rfl) (by decide))) (s_addN rfl (hA.dep 16 (by kernel_rfl) (by decide)) (hA.dep 17 (by kernel_rfl) (by decide)) (by omega) (by omega) (by omega)) rfl hI
              | 19, _ =>
                obtain rfl := Option.some.inj ho
                exact w_val (w_yes rfl (hA.dep 2 (by kernel_rfl) (by decide))) (s_addN rfl (hA.dep 18 (by kernel_rfl) (by decide)) rfl (by omega) (by omega) (by omega)) rfl hI
              | 20, _ =>
                obtain rfl := Option.some.inj ho
                exact w_val (w_yes rfl (hA.dep 2 (by kernel_rfl) (by decide))) (s_subT rfl (hA.dep 14 (by kernel_rfl) (by decide)) (hA.dep 15 (by kernel_rfl) (by decide)) (hA.dep 19 (by kernel_rfl) (by decide)) (by omega) HKD.out) (by rw [HX.out]; rfl) hI
              | 21, _ =>
                obtain rfl := Option.some.inj ho
                exact w_val (w_yes rfl (hA.dep 2 (by kernel_rfl) (by decide))) (s_neS rfl (hA.dep 13 (by kernel_rfl) (by decide)) (hA.dep 20 (by kernel_rfl) (by decide)) HNE.out) rfl hI
              | 22, _ =>
                obtain rfl := Option.some.inj ho
                exact w_val (w_plain rfl) (s_pickT rfl (hA.dep 2 (by kernel_rfl) (by decide)) (hA.dep 21 (by kernel_rfl) (by decide))) rfl hI
              | 23, _ =>
                obtain rfl := Option.some.inj ho
                exact w_val (w_plain rfl) (s_move rfl (hA.dep 22 (by kernel_rfl) (by decide))) rfl hI
              | 24, _ =>
                obtain rfl := Option.some.inj ho
                exact w_no rfl (hA.dep 23 (by kernel_rfl) (by decide)) rfl hI
              | 25, _ =>
                obtain rfl := Option.some.inj ho
                exact w_no rfl (hA.dep 23 (by kernel_rfl) (by decide)) rfl hI
              | 26, _ =>
                obtain rfl := Option.some.inj ho
                exact w_no rfl (hA.dep 23 (by kernel_rfl) (by decide)) rfl hI
              | 27, _ =>
                obtain rfl := Option.some.inj ho
                exact w_no rfl (hA.dep 23 (by kernel_rfl) (by decide)) rfl hI
              | 28, _ =>
                obtain rfl := Option.some.inj ho
                exact w_no rfl (hA.dep 23 (by kernel_rfl) (by decide)) rfl hI
              | 29, _ =>
                obtain rfl := Option.some.inj ho
                exact w_no rfl (hA.dep 23 (by kernel_rfl) (by decide)) rfl hI
              | 30, _ =>
                obtain rfl := Option.some.inj ho
                exact w_no rfl (hA.dep 23 (by kernel_rfl) (by decide)) rfl hI
              | k' + 31, hk' => exact absurd (show k' + 31 < 31 from hk') (by omega)
            · intro G w6 hG hI
              have hI0 : IOr w n0 r g L L' (.slice la L.length lc) [p0, p1, p2, p3] false w6 := hI
              have HBE : Hid (RBok w6 n0 r L) := Lib.hid ⟨_, hI0.r0 rfl⟩
              have HGE : Hid (Gr w w6) := Lib.hid hI0.gr
              clear hI hI0 hG
              simp only [putN, List.drop_succ_cons, List.drop_zero, List.getElem?_cons_succ, List.getElem?_cons_zero, List.getD_cons_succ, List.getD_cons_zero]
              go_wp2
              exact bodyPost_ret (v := .tuple #[.pointer (some ⟨r, 0, none⟩), .int .i64 (A : Int)]) (by simp [results, Tryz.results20, go_sem]) rfl ⟨r, L, A, rfl, HBE.out, ⟨HST.out, stepO_line (by rw [← HRR.out]; exact HIX.out) (by rw [← HRR.out]; exact HP4.out) HATO.out (by rw [← HRR.out, ← HXR.out]; exact HNE.out)⟩, HGE.out⟩
        | none =>
          have HAT := Lib.hid hat
          obtain ⟨L', hL'⟩ : ∃ L' : List Ent, L' = L := ⟨_, rfl⟩
          clear hat hL'
          go_upto_region 10 with (first
            | (refine wpList_sufT (by rfl) (.tmp 12) (.tmp 13) (by rfl) (by rfl) (by rfl) (i := A) HAD0.out ?_; rw [← HRR.out])
            | (go_at_call 33; refine (index_any R ⟨#[10]⟩ HRL.out _ (HEN.out.gr HGE.out)).mono ?_; rintro e w2 ⟨rfl, rfl⟩; rw [HIX.out])
            | (refine wpList_midT (by rfl) (.tmp 20) (.tmp 21) (.tmp 24) (by rfl) (by rfl) (by rfl) (by first | rfl | exact congrArg (Value.int IntKind.i64) HAK.out) (i := A) (k := A + k) (Nat.le_add_right _ _) HKE.out ?_; rw [← HLN.out])
            | (go_at_call 31; refine (split_any (R.extract 0 k) HLS.out _ (HEN.out.gr HGE.out)).mono ?_; rintro e w3 ⟨g, rfl, hp3, hg3⟩; rw [HP4.out] at hp3; rw [HP4.out, show ([p0, p1, p2, p3] : List ByteArray).length = 4 from rfl]; have k2 : w3.cell? ⟨g, 2, none⟩ = some (.string p2) := hp3.at_ (k := 2) (show 2 < 4 by decide); have HP3 := Lib.hid hp3; have HBE3 := Lib.hid (HBE.out.gr hg3); have HGE3 := Lib.hid (HGE.out.trans hg3); clear hp3 hg3)
            | (go_at_call 34; refine (rnumber_any p2 HP2.out _ (HEN.out.gr HGE3.out)).mono ?_; rintro e w5 ⟨rfl, hg5⟩; have HB5 := Lib.hid (HBE3.out.gr hg5); have HG5 := Lib.hid (HGE3.out.trans hg5); have HP5 := Lib.hid (HP3.out.gr hg5); rw [HAT.out, show (none : Option Int).isSome = false from rfl]; clear hg5))
          obtain ⟨v5, hv5⟩ := HB5.out
          obtain ⟨la, lc, rfl⟩ := hv5.shape
          have HR5 := Lib.hid hv5
          clear hv5 HBE HGE HB5 k2
          refine wp_region_w (n := 31) (fun G W' => IOr w n0 r g L L' (.slice la L.length lc) [p0, p1, p2, p3] (false) W') [.bool false, .bool true, .bool true, undef, undef, undef, undef, undef, undef, undef, undef, undef, undef, undef, undef, undef, undef, undef, undef, undef, undef, undef, .bool true, .bool true, undef, undef, undef, undef, undef, undef, undef] [39, 40, 41, 42, 43, 44, 45, 46, 47, 48, 49, 50, 51, 52, 53, 54, 55, 56, 57, 58, 59, 60, 61, 62, 63, 64, 65, 66, 67, 68, 69] ?_ (by kernel_rfl) (by kernel_rfl) (by kernel_rfl) ?_ ?_
          · exact ⟨fun _ => HR5.out.gr ((Gr.refl _).drew), fun e => absurd e (by decide), HP5.out.gr ((Gr.refl _).drew), HG5.out.trans ((Gr.refl _).drew)⟩
          · intro G i' o' ac w1' hi' ho hA hI
            match i', hi' with
            | 0, _ =>
              obtain rfl := Option.some.inj ho
              exact w_val (w_plain rfl) (s_move rfl (show ac.eval (.tmp 9) = .bool false from hA.other 9 (by decide))) rfl hI
            | 1, _ =>
              obtain rfl := Option.some.inj ho
              exact w_val (w_plain rfl) (s_not rfl (hA.dep 0 (by kernel_rfl) (by decide))) rfl hI
            | 2, _ =>
              obtain rfl := Option.some.inj ho
              exact w_val (w_plain rfl) (s_move rfl (hA.dep 1 (by kernel_rfl) (by decide))) rfl hI
            | 3, _ =>
              obtain rfl := Option.some.inj ho
              exact w_no rfl (hA.dep 2 (by kernel_rfl) (by decide)) rfl hI
            | 4, _ =>
              obtain rfl := Option.some.inj ho
              exact w_no rfl (hA.dep 2 (by kernel_rfl) (by decide)) rfl hI
            | 5, _ =>
              obtain rfl := Option.some.inj ho
              exact w_no rfl (hA.dep 2 (by kernel_rfl) (by decide)) rfl hI
            | 6, _ =>
              obtain rfl := Option.some.inj ho
              exact w_no rfl (hA.dep 2 (by kernel_rfl) (by decide)) rfl hI
            | 7, _ =>
              obtain rfl := Option.some.inj ho
              exact w_no rfl (hA.dep 2 (by kernel_rfl) (by decide)) rfl hI
            | 8, _ =>
              obtain rfl := Option.some.inj ho
              exact w_no rfl (hA.dep 2 (by kernel_rfl) (by decide)) rfl hI
            | 9, _ =>
              obtain rfl := Option.some.inj ho
              exact w_no rfl (hA.dep 2 (by kernel_rfl) (by decide)) rfl hI
            | 10, _ =>
              obtain rfl := Option.some.inj ho
              exact w_no rfl (hA.dep 2 (by kernel_rfl) (by decide)) rfl hI
            | 11, _ =>
              obtain rfl := Option.some.inj ho
              exact w_no rfl (hA.dep 2 (by kernel_rfl) (by decide)) rfl hI
            | 12, _ =>
              obtain rfl := Option.some.inj ho
              exact w_no rfl (hA.dep 2 (by kernel_rfl) (by decide)) rfl hI
            | 13, _ =>
              obtain rfl := Option.some.inj ho
              exact w_no rfl (hA.dep 2 (by kernel_rfl) (by decide)) rfl hI
            | 14, _ =>
              obtain rfl := Option.some.inj ho
              exact w_no rfl (hA.dep 2 (by kernel_rfl) (by decide)) rfl hI
            | 15, _ =>
              obtain rfl := Option.some.inj ho
              exact w_no rfl (hA.dep 2 (by kernel_rfl) (by decide)) rfl hI
            | 16, _ =>
              obtain rfl := Option.some.inj ho
              exact w_no rfl (hA.dep 2 (by kernel_rfl) (by decide)) rfl hI
            | 17, _ =>
              obtain rfl := Option.some.inj ho
              exact w_no rfl (hA.dep 2 (by kernel_rfl) (by decide)) rfl hI
            | 18, _ =>
              obtain rfl := Option.some.inj ho
              exact w_no rfl (hA.dep 2 (by kernel_rfl) (by decide)) rfl hI
            | 19, _ =>
              obtain rfl := Option.some.inj ho
              exact w_no rfl (hA.dep 2 (by kernel_rfl) (by decide)) rfl hI
            | 20, _ =>
              obtain rfl := Option.some.inj ho
              exact w_no rfl (hA.dep 2 (by kernel_rfl) (by decide)) rfl hI
            | 21, _ =>
              obtain rfl := Option.some.inj ho
              exact w_no rfl (hA.dep 2 (by kernel_rfl) (by decide)) rfl hI
            | 22, _ =>
              obtain rfl := Option.some.inj ho
              exact w_val (w_plain rfl) (s_pickTT rfl (hA.dep 2 (by kernel_rfl) (by decide))) rfl hI
            | 23, _ =>
              obtain rfl := Option.some.inj ho
              exact w_val (w_plain rfl) (s_move rfl (hA.dep 22 (by kernel_rfl) (by decide))) rfl hI
            | 24, _ =>
              obtain rfl := Option.some.inj ho
              exact w_no rfl (hA.dep 23 (by kernel_rfl) (by decide)) rfl hI
            | 25, _ =>
              obtain rfl := Option.some.inj ho
              exact w_no rfl (hA.dep 23 (by kernel_rfl) (by decide)) rfl hI
            | 26, _ =>
              obtain rfl := Option.some.inj ho
              exact w_no rfl (hA.dep 23 (by kernel_rfl) (by decide)) rfl hI
            | 27, _ =>
              obtain rfl := Option.some.inj ho
              exact w_no rfl (hA.dep 23 (by kernel_rfl) (by decide)) rfl hI
            | 28, _ =>
              obtain rfl := Option.some.inj ho
              exact w_no rfl (hA.dep 23 (by kernel_rfl) (by decide)) rfl hI
            | 29, _ =>
              obtain rfl := Option.some.inj ho
              exact w_no rfl (hA.dep 23 (by kernel_rfl) (by decide)) rfl hI
            | 30, _ =>
              obtain rfl := Option.some.inj ho
              exact w_no rfl (hA.dep 23 (by kernel_rfl) (by decide)) rfl hI
            | k' + 31, hk' => exact absurd (show k' + 31 < 31 from hk') (by omega)
          · intro G w6 hG hI
            have hI0 : IOr w n0 r g L L' (.slice la L.length lc) [p0, p1, p2, p3] false w6 := hI
            have HBE : Hid (RBok w6 n0 r L) := Lib.hid ⟨_, hI0.r0 rfl⟩
            have HGE : Hid (Gr w w6) := Lib.hid hI0.gr
            clear hI hI0 hG
            simp only [putN, List.drop_succ_cons, List.drop_zero, List.getElem?_cons_succ, List.getElem?_cons_zero, List.getD_cons_succ, List.getD_cons_zero]
            go_wp2
            exact bodyPost_ret (v := .tuple #[.pointer (some ⟨r, 0, none⟩), .int .i64 (A : Int)]) (by simp [results, Tryz.results20, go_sem]) rfl ⟨r, L, A, rfl, HBE.out, ⟨HST.out, stepO_num (by rw [← HRR.out]; exact HIX.out) (by rw [← HRR.out]; exact HP4.out) HAT.out⟩, HGE.out⟩
      · obtain ⟨q, hq⟩ : ∃ q, q = (pcs kSp (R.extract 0 k)).length := ⟨_, rfl⟩
        have HQ := Lib.hid hq.symm
        have HQ4 := Lib.hid h4
        rw [← hq] at h4
        have q4 : ¬ (q : Int) = 4 := by omega
        have q5 : (0 : Int) ≤ (q : Int) := by omega
        clear hq h4
        go_wp2_with (first
          | (refine wpList_sufT (by rfl) (.tmp 12) (.tmp 13) (by rfl) (by rfl) (by rfl) (i := A) HAD0.out ?_; rw [← HRR.out])
          | (go_at_call 33; refine (index_any R ⟨#[10]⟩ HRL.out _ (HEN.out.gr HGE.out)).mono ?_; rintro e w2 ⟨rfl, rfl⟩; rw [HIX.out])
          | (refine wpList_midT (by rfl) (.tmp 20) (.tmp 21) (.tmp 24) (by rfl) (by rfl) (by rfl) (by first | rfl | exact congrArg (Value.int IntKind.i64) HAK.out) (i := A) (k := A + k) (Nat.le_add_right _ _) HKE.out ?_; rw [← HLN.out])
          | (go_at_call 31; refine (split_any (R.extract 0 k) HLS.out _ (HEN.out.gr HGE.out)).mono ?_; rintro e w3 ⟨g, rfl, hp3, hg3⟩; rw [HQ.out]; have HBE3 := Lib.hid (HBE.out.gr hg3); have HGE3 := Lib.hid (HGE.out.trans hg3); clear hp3 hg3 HBE HGE; have HBE := HBE3; have HGE := HGE3; clear HBE3 HGE3))
        exact bodyPost_ret (v := .tuple #[.pointer (some ⟨r, 0, none⟩), .int .i64 (A : Int)]) (by simp [results, Tryz.results20, go_sem]) rfl ⟨r, L, A, rfl, HBE.out, ⟨HST.out, stepO_len (by rw [← HRR.out]; exact HIX.out) (by rw [← HRR.out]; exact HQ4.out)⟩, HGE.out⟩
end Go.Proofs.YticifnegoacopaaGreatDoor

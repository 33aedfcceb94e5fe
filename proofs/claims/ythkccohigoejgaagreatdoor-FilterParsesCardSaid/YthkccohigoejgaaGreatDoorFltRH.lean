/-
  The reference reads a filter.
-/
import Derived.Test.YthkccohigoejgaaGreatDoorFltRF
import Derived.Test.YthkccohigoejgaaGreatDoorFltRD
import Derived.Test.YthkccohigoejgaaGreatDoorFltZ
import Derived.BigRegion
namespace Go.Proofs.YthkccohigoejgaaGreatDoor
open Go Go.RowKit

theorem rfilter_any {w0 : World} {p m : Nat} {e : Int} (HE : Env w0) : ∀ (d : Nat), d ≤ 20 → ∀ {w : World} {L : List Tok} {pl B : Int}, B + (d : Int) = 20 → RP w0 w p m L e 0 pl →
    Calls Tryz.prog 10 #[.pointer (some ⟨p, 0, none⟩), .int .i64 B] w fun E w' => RAns w0 w w' p m d e E (pOne d L)
  | 0, _, w, L, pl, B, hB, h => by
    obtain rfl : B = 20 := by omega
    exact rfilter_zero h
  | d + 1, hd, w, L, pl, B, hB, h => rfilter_succ HE d (by omega) (fun hB' h' => rfilter_any HE d (by omega) hB' h') (by omega) h
/-- How the reference's reading ends. -/
def QAns (w w' : World) (_n : Int) (E : Ending) : PR → Prop
  | .ok f _ => ∃ v pl, E = .returned (.tuple #[v, .agg #[.int .i64 0, .int .i64 pl]]) ∧ RFl (fun g => w.heap.size ≤ g) 20 w' v f ∧ Gr w w'
  | .err c _ => ∃ v pl, E = .returned (.tuple #[v, .agg #[.int .i64 c, .int .i64 pl]]) ∧ isPt v ∧ c ≠ 0 ∧ Gr w w'
/-- .. with the place. -/
def QX (w w' : World) (n : Int) (E : Ending) : PR → Prop
  | .ok f _ => ∃ v, E = .returned (.tuple #[v, .agg #[.int .i64 0, .int .i64 (-1)]]) ∧ RFl (fun g => w.heap.size ≤ g) 20 w' v f ∧ Gr w w'
  | .err c R => ∃ v, E = .returned (.tuple #[v, .agg #[.int .i64 c, .int .i64 (placeOf n R)]]) ∧ isPt v ∧ c ≠ 0 ∧ Gr w w'
theorem QX.any {w w' : World} {n : Int} {E : Ending} {pr : PR} (h : QX w w' n E pr) : QAns w w' n E pr := by
  cases pr with
  | ok f R => obtain ⟨v, h1, h2, h3⟩ := h; exact ⟨v, -1, h1, h2, h3⟩
  | err c R => obtain ⟨v, h1, h2, h3, h4⟩ := h; exact ⟨v, _, h1, h2, h3, h4⟩
theorem pAll_nil {t : ByteArray} {f : Flt} (h : pOne 20 (toks t) = .ok f []) : pAll t = .ok f [] := by unfold pAll; rw [h]
theorem pAll_more {t : ByteArray} {f : Flt} {x : Tok} {r : List Tok} (h : pOne 20 (toks t) = .ok f (x :: r)) : pAll t = .err 3 (x :: r) := by unfold pAll; rw [h]
theorem pAll_err {t : ByteArray} {c : Int} {r : List Tok} (h : pOne 20 (toks t) = .err c r) : pAll t = .err c r := by unfold pAll; rw [h]
/-- The fault that is told back. -/
def FB (w : World) (q : Nat) : Prop := w.heap[q]? = some (.cells #[.int .i64 0, .int .i64 0] 25 (0, 0))
section
variable {w : World} {q : Nat}
theorem FB.gr {w' : World} (h : FB w q) (g : Gr w w') : FB w' q := (g.block (Array.getElem?_eq_some_iff.1 h).1).trans h
theorem FB.c0 (h : FB w q) : w.cell? ⟨q, 0, none⟩ = some (.int .i64 0) := cell_of_row _ _ 0 _ _ _ h
theorem FB.c1 (h : FB w q) : w.cell? ⟨q, 1, none⟩ = some (.int .i64 0) := cell_of_row _ _ 1 _ _ _ h
theorem FB.fz (h : FB w q) (j : Nat) : w.frozen? ⟨q, j, none⟩ = false := by
  unfold World.frozen?
  have : w.heap[q]? = _ := h
  simp [this]
theorem FB.new (w : World) : FB (w.alloc (.cells #[.int .i64 0, .int .i64 0] 25)) w.heap.size := heap_alloc_new w _
end
/-- Behind the fault's storing. -/
theorem two_gr {w w3 : World} {q : Nat} (a b : Value) (g : Gr w w3) (hq : w.heap.size ≤ q) : Gr w (((w3.setCell ⟨q, 0, none⟩ a).setCell ⟨q, 1, none⟩ b).drew) := ((g.setCell hq _).setCell hq _).drew
theorem two_flt {w w2 w3 : World} {q d : Nat} {v : Value} {f : Flt} (a b : Value) (h : RFl (fun g => w2.heap.size ≤ g) d w3 v f) (hq : q < w2.heap.size) (h2 : w.heap.size ≤ w2.heap.size) : RFl (fun g => w.heap.size ≤ g) d (((w3.setCell ⟨q, 0, none⟩ a).setCell ⟨q, 1, none⟩ b).drew) v f := by
  have k : Sav (fun x => x = q) w3 ((w3.setCell ⟨q, 0, none⟩ a).setCell ⟨q, 1, none⟩ b) := (Sav.set q 0 a).then (Sav.set q 1 b)
  exact (h.same (w' := ((w3.setCell ⟨q, 0, none⟩ a).setCell ⟨q, 1, none⟩ b).drew) (fun g hg hl => k.block g hl (fun e => by omega)) k.size).mono fun g hg _ => Nat.le_trans h2 hg
set_option maxRecDepth 100000 in
set_option maxHeartbeats 8000000 in
theorem rparse_x {w : World} (HE : Env w) (t : ByteArray) (ht : t.size ≤ 2000) :
    Calls Tryz.prog 4 #[.string t] w fun E w' => QX w w' (t.size : Int) E (pAll t) := by
  have HEN := Lib.hid HE
  clear HE
  obtain ⟨n, hn⟩ : ∃ n, n = t.size := ⟨_, rfl⟩
  have HN := Lib.hid hn
  rw [← hn] at ht ⊢
  clear hn
  have hlen : ∀ w ty, (Builtin.len_ #[9] ty #[.string t]).run Tryz.prog w = .ok (.int .i64 (n : Int)) w := fun w ty => by rw [HN.out]; simp [go_sem, Tryz.underlying9]
  have n0 : (n : Int) ≤ 2000 := by omega
  have HT2 : Hid (t.size ≤ 2000) := Lib.hid (by rw [← HN.out]; exact ht)
  clear ht
  go_enter Tryz.func4, Tryz.ntmps4
  go_upto_region 3 with fail
  obtain ⟨q, hq⟩ : ∃ q, q = w.heap.size := ⟨_, rfl⟩
  obtain ⟨w1, hw1⟩ : ∃ w1, w1 = w.alloc (.cells #[.int .i64 0, .int .i64 0] 25) := ⟨_, rfl⟩
  have HF1 : Hid (FB w1 q) := Lib.hid (by rw [hw1, hq]; exact FB.new w)
  have HG1 : Hid (Gr w w1) := Lib.hid (by rw [hw1]; exact (Gr.refl w).alloc _)
  have HQ : Hid (w.heap.size ≤ q ∧ q < w1.heap.size) := Lib.hid (by rw [hw1, hq]; simp)
  rw [← hq, ← hw1]
  clear hq hw1
  go_upto_region 4 with (first
    | (go_at_call 9
       refine (signs_any (HEN.out.gr HG1.out) t HT2.out).mono ?_
       rintro E w2 ⟨p, rfl, h1⟩
       rw [← HN.out] at h1
       have H2 := Lib.hid h1
       clear h1))
  have HG2 := Lib.hid (HG1.out.trans H2.out.gr)
  cases hpo : pOne 20 (toks t) with
  | ok f R =>
    cases R with
    | nil =>
      have HPO := Lib.hid (pAll_nil hpo)
      have HP0 := Lib.hid hpo
      clear hpo
      go_wp2_with (first
        | (go_at_call 10
           refine (rfilter_any (HEN.out.gr HG1.out) 20 (Nat.le_refl _) (by decide) H2.out).mono ?_
           rintro E w3 ⟨v, rfl, hk, hs⟩
           rw [HP0.out] at hk
           obtain ⟨hf, pl, hrp⟩ := hk
           obtain rfl : pl = -1 := hrp.okp rfl
           obtain ⟨b, rfl⟩ := hf.ptr
           have HF3 := Lib.hid hf
           have H3 := Lib.hid hrp
           obtain ⟨a, k, g0, _⟩ := hrp.ls
           simp only [List.length_nil] at g0
           have g2 := hrp.c2
           have g3 := hrp.c3
           have q0 := (HF1.out.gr hrp.gr).c0
           have q1 := (HF1.out.gr hrp.gr).c1
           have z0 := (HF1.out.gr hrp.gr).fz 0
           have z1 := (HF1.out.gr hrp.gr).fz 1
           clear hf hrp hs))
      go_region
      go_wp2
      refine bodyPost_ret (v := .tuple #[.pointer (some ⟨b, 0, none⟩), .agg #[.int .i64 0, .int .i64 (-1)]]) (by simp [results, Tryz.results4, go_sem, q0, q1]) rfl ?_
      rw [HPO.out]
      exact ⟨_, rfl, two_flt _ _ HF3.out (Nat.lt_of_lt_of_le HQ.out.2 H2.out.gr.size) HG2.out.size, two_gr _ _ (HG1.out.trans H3.out.gr) HQ.out.1⟩
    | cons x r =>
      have HPO := Lib.hid (pAll_more hpo)
      have HP0 := Lib.hid hpo
      clear hpo
      go_wp2_with (first
        | (go_at_call 11
           refine (rfail_ok H3.out _).mono ?_
           rintro E w4 ⟨rfl, hrp, hs⟩
           have H4 := Lib.hid hrp
           have g2 := hrp.c2
           have g3 := hrp.c3
           have q0 := (HF1.out.gr hrp.gr).c0
           have q1 := (HF1.out.gr hrp.gr).c1
           have z0 := (HF1.out.gr hrp.gr).fz 0
           have z1 := (HF1.out.gr hrp.gr).fz 1
           clear hrp hs)
        | (go_at_call 10
           refine (rfilter_any (HEN.out.gr HG1.out) 20 (Nat.le_refl _) (by decide) H2.out).mono ?_
           rintro E w3 ⟨v, rfl, hk, hs⟩
           rw [HP0.out] at hk
           obtain ⟨hf, pl, hrp⟩ := hk
           obtain ⟨b, rfl⟩ := hf.ptr
           have H3 := Lib.hid hrp
           obtain ⟨a, k, g0, _⟩ := hrp.ls
           have hl1 := hrp.hl
           simp only [List.length_cons] at g0 hl1
           obtain ⟨m, hm⟩ : ∃ m, m = r.length := ⟨_, rfl⟩
           rw [← hm] at g0 hl1
           have n1 : (0 : Int) ≤ (m : Int) := by omega
           have n2 : (m : Int) ≤ 2000 := by omega
           clear hf hrp hs hm))
      go_region
      go_wp2
      refine bodyPost_ret (v := .tuple #[.pointer (some ⟨b, 0, none⟩), .agg #[.int .i64 3, .int .i64 (placeOf (n : Int) (x :: r))]]) (by simp [results, Tryz.results4, go_sem, q0, q1]) rfl ?_
      rw [HPO.out]
      exact ⟨_, rfl, ⟨_, rfl⟩, by decide, two_gr _ _ (HG1.out.trans H4.out.gr) HQ.out.1⟩
  | err c R =>
    have HPO := Lib.hid (pAll_err hpo)
    have HP0 := Lib.hid hpo
    clear hpo
    go_upto_region 5 with (first
        | (go_at_call 10
           refine (rfilter_any (HEN.out.gr HG1.out) 20 (Nat.le_refl _) (by decide) H2.out).mono ?_
           rintro E w3 ⟨v, rfl, hk, hs⟩
           rw [HP0.out] at hk
           obtain ⟨⟨va, rfl⟩, hc0, R', hrp⟩ := hk
           have H3 := Lib.hid hrp
           have HC := Lib.hid hc0
           clear hrp hs hc0))
    have g2 := H3.out.c2
    have g3 := H3.out.c3
    have q0 := (HF1.out.gr H3.out.gr).c0
    have q1 := (HF1.out.gr H3.out.gr).c1
    have z0 := (HF1.out.gr H3.out.gr).fz 0
    have z1 := (HF1.out.gr H3.out.gr).fz 1
    cases R' with
    | nil =>
      obtain ⟨a, k, g0, _⟩ := H3.out.ls
      simp only [List.length_nil] at g0
      go_wp2
      go_region
      go_wp2
      refine bodyPost_ret (v := .tuple #[.pointer va, .agg #[.int .i64 c, .int .i64 (placeOf (n : Int) R)]]) (by simp [results, Tryz.results4, go_sem, q0, q1]) rfl ?_
      rw [HPO.out]
      exact ⟨_, rfl, ⟨_, rfl⟩, HC.out, two_gr _ _ (HG1.out.trans H3.out.gr) HQ.out.1⟩
    | cons x r =>
      obtain ⟨a, k, g0, _⟩ := H3.out.ls
      have hl1 := H3.out.hl
      simp only [List.length_cons] at g0 hl1
      obtain ⟨m, hm⟩ : ∃ m, m = r.length := ⟨_, rfl⟩
      rw [← hm] at g0 hl1
      have n1 : (0 : Int) ≤ (m : Int) := by omega
      have n2 : (m : Int) ≤ 2000 := by omega
      clear hm
      go_wp2_with (go_at_call 11; refine (rfail_err H3.out HC.out _).mono ?_; rintro E w4 ⟨rfl, hww⟩; replace hww := hww.symm; subst hww)
      go_region
      go_wp2
      refine bodyPost_ret (v := .tuple #[.pointer va, .agg #[.int .i64 c, .int .i64 (placeOf (n : Int) R)]]) (by simp [results, Tryz.results4, go_sem, q0, q1]) rfl ?_
      rw [HPO.out]
      exact ⟨_, rfl, ⟨_, rfl⟩, HC.out, two_gr _ _ (HG1.out.trans H3.out.gr) HQ.out.1⟩
theorem rparse_any {w : World} (HE : Env w) (t : ByteArray) (ht : t.size ≤ 2000) :
    Calls Tryz.prog 4 #[.string t] w fun E w' => QAns w w' (t.size : Int) E (pAll t) := (rparse_x HE t ht).mono fun _ _ h => h.any
end Go.Proofs.YthkccohigoejgaaGreatDoor

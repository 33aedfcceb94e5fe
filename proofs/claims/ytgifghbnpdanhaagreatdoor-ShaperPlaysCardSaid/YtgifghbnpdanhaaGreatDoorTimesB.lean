/-
  Steps in a row, and plain.Times. (Printed by gentimes.py.)
-/
import Derived.Test.YtgifghbnpdanhaaGreatDoorShaperPlaysPart11
import Derived.Test.YtgifghbnpdanhaaGreatDoorShaperPlaysPart6
import Derived.Test.YtgifghbnpdanhaaGreatDoorLst
import Derived.BigGuardPart
import Derived.BigRegion
import Derived.Deep.DeepCutAuto
import Derived.Deep.CutBlock
namespace Go.Proofs.YtgifghbnpdanhaaGreatDoor
open Go.RowKit Go.Extern.Stop Go.Stop Go.Extern

def Stp.zero : Stp := ⟨0, 0, .zero⟩
def Stp.val (x : Stp) : Value := .agg #[.int .i64 x.what, .int .i64 x.later, .int .i64 x.it.t, .int .i64 x.it.len, .int .i64 x.it.flow, .int .i64 x.it.band, .int .i64 x.it.mark]
def Stp.cells (x : Stp) : List Value := [.int .i64 x.what, .int .i64 x.later, .int .i64 x.it.t, .int .i64 x.it.len, .int .i64 x.it.flow, .int .i64 x.it.band, .int .i64 x.it.mark]
def flatS (xs : List Stp) : List Value := xs.flatMap Stp.cells
theorem flatS_len (xs : List Stp) : (flatS xs).length = xs.length * 7 := by
  induction xs with
  | nil => rfl
  | cons x xs ih =>
    have : flatS (x :: xs) = x.cells ++ flatS xs := rfl
    rw [this, List.length_append, ih, List.length_cons, Nat.add_mul]
    simp [Stp.cells]
    omega
theorem flatS_cons (x : Stp) (xs : List Stp) : flatS (x :: xs) = x.cells ++ flatS xs := rfl
theorem flatS_app (xs ys : List Stp) : flatS (xs ++ ys) = flatS xs ++ flatS ys := by simp [flatS]
theorem flatS_one (x : Stp) : flatS [x] = x.cells := by simp [flatS]
theorem flatS_get (xs : List Stp) : ∀ (i j : Nat), i < xs.length → j < 7 → (flatS xs)[i * 7 + j]? = ((xs.getD i .zero).cells)[j]? := by
  induction xs with
  | nil => intro i j hi _; simp at hi
  | cons x xs ih =>
    intro i j hi hj
    rw [flatS_cons]
    cases i with
    | zero => rw [Nat.zero_mul, Nat.zero_add, List.getElem?_append_left (by simpa [Stp.cells] using hj)]; rfl
    | succ i =>
      rw [List.getElem?_append_right (by simp [Stp.cells]; omega)]
      have : (i + 1) * 7 + j - x.cells.length = i * 7 + j := by simp [Stp.cells]; omega
      rw [this, ih i j (by simpa using hi) hj]
      rfl
theorem Stp.cells_int (x : Stp) : ∀ u ∈ x.cells, u.oneCell' = true ∧ isInt u := by
  intro u hu
  simp only [Stp.cells, List.mem_cons, List.not_mem_nil, or_false] at hu
  rcases hu with rfl | rfl | rfl | rfl | rfl | rfl | rfl <;> exact ⟨rfl, _, rfl⟩
theorem flatS_int (xs : List Stp) : ∀ u ∈ flatS xs, u.oneCell' = true ∧ isInt u := by
  intro u hu
  obtain ⟨x, _, hx⟩ := List.mem_flatMap.1 hu
  exact Stp.cells_int x u hx
/-- The cells of one. -/
structure StpAt (w : World) (b o : Nat) (x : Stp) : Prop where
  c0 : w.cell? ⟨b, o, none⟩ = some (.int .i64 x.what)
  c1 : w.cell? ⟨b, o + 1, none⟩ = some (.int .i64 x.later)
  c2 : w.cell? ⟨b, o + 2, none⟩ = some (.int .i64 x.it.t)
  c3 : w.cell? ⟨b, o + 3, none⟩ = some (.int .i64 x.it.len)
  c4 : w.cell? ⟨b, o + 4, none⟩ = some (.int .i64 x.it.flow)
  c5 : w.cell? ⟨b, o + 5, none⟩ = some (.int .i64 x.it.band)
  c6 : w.cell? ⟨b, o + 6, none⟩ = some (.int .i64 x.it.mark)
theorem StpAt.sav {w w' : World} {b o : Nat} {x : Stp} {B : Nat → Prop} (h : StpAt w b o x) (k : Sav B w w') (hb : ¬ B b) : StpAt w' b o x :=
  ⟨k.cell h.c0 hb, k.cell h.c1 hb, k.cell h.c2 hb, k.cell h.c3 hb, k.cell h.c4 hb, k.cell h.c5 hb, k.cell h.c6 hb⟩
theorem StpAt.gr {w w' : World} {b o : Nat} {x : Stp} (h : StpAt w b o x) (k : Gr w w') : StpAt w' b o x :=
  ⟨k.cell h.c0, k.cell h.c1, k.cell h.c2, k.cell h.c3, k.cell h.c4, k.cell h.c5, k.cell h.c6⟩
theorem StpAt.news {w : World} {b o : Nat} {x : Stp} (h : StpAt w b o x) : ∀ (j : Nat) (u : Value), x.cells[j]? = some u → w.cell? (Addr.add ⟨b, o, none⟩ j) = some u := by
  intro j u hj
  match j, hj with
  | 0, hj => simp [Stp.cells] at hj; subst hj; exact h.c0
  | 1, hj => simp [Stp.cells] at hj; subst hj; exact h.c1
  | 2, hj => simp [Stp.cells] at hj; subst hj; exact h.c2
  | 3, hj => simp [Stp.cells] at hj; subst hj; exact h.c3
  | 4, hj => simp [Stp.cells] at hj; subst hj; exact h.c4
  | 5, hj => simp [Stp.cells] at hj; subst hj; exact h.c5
  | 6, hj => simp [Stp.cells] at hj; subst hj; exact h.c6
  | j + 7, hj => simp [Stp.cells] at hj
theorem StpAt.new (w : World) (x : Stp) {p : Nat} (hp : p = w.heap.size) {E : TypeId} : StpAt (w.alloc (.cells #[.int .i64 x.what, .int .i64 x.later, .int .i64 x.it.t, .int .i64 x.it.len, .int .i64 x.it.flow, .int .i64 x.it.band, .int .i64 x.it.mark] E)) p 0 x := by
  subst hp
  constructor <;> simp
/-- An own slice of such. -/
def RowS (E : TypeId) (w : World) (v : Value) (xs : List Stp) : Prop := Row E 7 isInt w v xs.length (flatS xs)
section
variable {E : TypeId} {w w' : World} {v : Value} {xs ys : List Stp} {x : Stp} {B : Nat → Prop}
theorem RowS.nil (E : TypeId) (w : World) : RowS E w (.slice none 0 0) [] := Row.nil _ _ _ w
theorem RowS.shape (h : RowS E w v xs) : ∃ a cap, v = .slice a xs.length cap := Row.shape h
theorem RowS.gr (h : RowS E w v xs) (k : Gr w w') : RowS E w' v xs := Row.gr h k
theorem RowS.sav (h : RowS E w v xs) (k : Sav B w w') (hv : ∀ g, v.ownBlock = some g → ¬ B g) : RowS E w' v xs := Row.sav h k hv
theorem RowS.lt (h : RowS E w v xs) {g : Nat} (hg : v.ownBlock = some g) : g < w.heap.size := Row.lt h hg
theorem RowS.any (h : RowS E w v xs) : ∃ a cap, v = .slice a xs.length cap ∧ xs.length ≤ cap ∧ cap ≤ maxLen ∧ Hid (0 < xs.length → ∃ b off, a = some ⟨b, off, none⟩ ∧ ∀ i, i < xs.length → StpAt w b (off + i * 7) (xs.getD i .zero)) := by
  rcases h.2 with ⟨rfl, h0⟩ | ⟨g, off, cap, cur, rfl, hh, g1, g2, g3, g4, g5⟩
  · refine ⟨none, 0, by rw [h0], by omega, by decide, fun hh => absurd hh (by omega)⟩
  · refine ⟨_, cap, rfl, g1, g2, fun _ => ⟨g, off, rfl, fun i hi => ?_⟩⟩
    have hc : ∀ j u, j < 7 → ((xs.getD i .zero).cells)[j]? = some u → w.cell? ⟨g, off + i * 7 + j, none⟩ = some u := by
      intro j u hj hu
      rw [cell_of_row w g _ cur E (0, 0) hh, Nat.add_assoc, g5 (i * 7 + j) (by omega), flatS_get xs i j hi hj]
      exact hu
    exact ⟨hc 0 _ (by omega) rfl, hc 1 _ (by omega) rfl, hc 2 _ (by omega) rfl, hc 3 _ (by omega) rfl, hc 4 _ (by omega) rfl, hc 5 _ (by omega) rfl, hc 6 _ (by omega) rfl⟩
/-- append of some more -/
theorem wpList_append_RowS {P : Program} {ops : Array Oper} {rest : List Oper} {o : Oper} {a : Act} {Q : Exit → Act → World → Prop} (hgd : o.guard = none) (s x : Operand) (t : TypeId)
    (ho : o.op = .call { callee := .builtin .append, args := #[s, x], argTypes := #[t, t] }) (i : TypeInfo) (z : Value) (ht : P.underlying t = some (.slice E)) (hi : P.info? E = some i) (hz : i.zero = some z) (hsize : i.size = 7) (hby : i.bytes = 56) (hzs : z.cells.size = 7) (hKz : ∀ u ∈ z.cells.toList, isInt u)
    (hs : a.eval s = v) (h : RowS E w v xs) (ad : Addr) (c : Nat) (ys : List Stp) (hx : a.eval x = .slice (some ad) ys.length c) (h0 : 0 < ys.length) (hnews : ∀ j u, (flatS ys)[j]? = some u → w.cell? (ad.add j) = some u) (hn : xs.length + ys.length ≤ 1000000)
    (hK : ∀ v' w', RowS E w' v' (xs ++ ys) → w.grownBy w' v.ownBlock → (∀ g, v'.ownBlock = some g → v.ownBlock = some g ∨ w.heap.size ≤ g) → wpList P ops Q rest (a.put o.dst v') w') : wpList P ops Q (o :: rest) a w := by
  obtain ⟨v', w', hr, h2, h3, h4, h5⟩ := Row.appendN (P := P) t o.type i z 56 ht hi hz hsize hby hzs hKz h ad c ys.length h0 (flatS ys) (flatS_len ys) hnews (fun u hu => (flatS_int ys u hu).1) (fun u hu => (flatS_int ys u hu).2) hn (by decide)
  refine wpList_plain hgd fun _ hK' => ?_
  unfold Oper.wp
  simp [execOp, ho, resolve, invoke, builtin, hs, hx, hr, Result.andThen]
  exact hK' _ _ (hK v' w' (by unfold RowS; rw [List.length_append, flatS_app]; exact h2) h3 h4)
end

theorem stpInfo : (Tryz.prog.info? 92).map (fun i => (i.zero, i.size, i.bytes)) = some (some Stp.zero.val, 7, 56) := by kernel_rfl
/-- Steps that are told: a slice that is only read. -/
def StpIn (w : World) (v : Value) (xs : List Stp) : Prop := ∃ a cap, v = .slice a xs.length cap ∧ Hid (0 < xs.length → ∃ b off, a = some ⟨b, off, none⟩ ∧ ∀ i, i < xs.length → StpAt w b (off + i * 7) (xs.getD i .zero))
theorem StpIn.gr {w w' : World} {v : Value} {xs : List Stp} (h : StpIn w v xs) (g : Gr w w') : StpIn w' v xs := by
  obtain ⟨a, cap, h1, h2⟩ := h
  exact ⟨a, cap, h1, fun h0 => by
    obtain ⟨b, off, h3, h4⟩ := h2.out h0
    exact ⟨b, off, h3, fun i hi => (h4 i hi).gr g⟩⟩
set_option maxRecDepth 100000 in
set_option maxHeartbeats 8000000 in
theorem times_any (v : Value) (xs : List Stp) (w : World) (h : StpIn w v xs) (hn : xs.length ≤ 900) :
    Calls Tryz.prog 25 #[v] w fun e w' => ∃ v', e = .returned v' ∧ RowS 92 w' v' (timesOf 0 xs) ∧ Gr w w' ∧ ∀ g, v'.ownBlock = some g → w.heap.size ≤ g := by
  obtain ⟨i0, hi0, hz0, hz1, hz2⟩ := info_parts stpInfo
  obtain ⟨a, cap, rfl, HC⟩ := h
  have HN := Lib.hid hn
  clear hn
  go_enter Tryz.func25, Tryz.ntmps25
  go_wp2
  go_loopw [3, 4, 9] (fun s3 s4 s9 wr => ∃ (j : Nat), j ≤ xs.length ∧ s9 = .int .i64 (j : Int) ∧ s4 = .int .i64 (clockOf 0 (xs.take j)) ∧ Hid (RowS 92 wr s3 (timesOf 0 (xs.take j)) ∧ Gr w wr ∧ ∀ g, s3.ownBlock = some g → w.heap.size ≤ g)) (fun _ _ i _ => xs.length - (intOf i).toNat)
  case atStart => exact ⟨0, Nat.zero_le _, rfl, rfl, RowS.nil _ _, Gr.refl _, fun g hg => by cases hg⟩
  case round =>
    obtain ⟨j, hj, rfl, rfl, HW⟩ := hrel
    by_cases hjl : j < xs.length
    · have j0 : (0 : Int) ≤ (j : Int) := by omega
      have j1 : (j : Int) < (xs.length : Int) := by omega
      obtain ⟨lb, lo, rfl, h4⟩ := HC.out (by omega)
      obtain ⟨c0, c1, c2, c3, c4, c5, c6⟩ := (h4 j hjl).gr HW.out.2.1
      clear h4
      obtain ⟨now, hnow⟩ : ∃ now, now = clockOf 0 (xs.take j) := ⟨_, rfl⟩
      have HT := Lib.hid (show timesOf 0 (xs.take (j + 1)) = timesOf 0 (xs.take j) ++ [stepAt (due now (xs.getD j .zero).later) (xs.getD j .zero)] ∧ clockOf 0 (xs.take (j + 1)) = due now (xs.getD j .zero).later from by
        rw [List.take_add_one, List.getElem?_eq_getElem hjl, List.getD_eq_getElem?_getD, List.getElem?_eq_getElem hjl, hnow]
        exact timesOf_snoc _ _ _)
      have HNB := Lib.hid (show 0 ≤ now ∧ now ≤ 1000000 from by
        rw [hnow]
        have h1 := clockOf_le 0 (xs.take j)
        have h2 : (xs.take j).length ≤ j := by simp; omega
        have := HN.out
        omega)
      rw [← hnow]
      clear hnow
      generalize xs.getD j .zero = s at *
      obtain ⟨what, later, t, len, flow, band, mark⟩ := s
      simp only [] at c0 c1 c2 c3 c4 c5 c6
      have HROW := Lib.hid HW.out.1
      have hROW := HW.out.1
      have HU := Lib.hid HW.out.2.2
      have HGW := Lib.hid HW.out.2.1
      clear HW
      go_upto_region 9 with fail
      obtain ⟨T, hT⟩ : ∃ T, T = due now later := ⟨_, rfl⟩
      have hTT : wrap64 (now + if 0 < if 1000 < later then 1000 else later then if 1000 < later then 1000 else later else 0) = T := by
        rw [hT]
        have := HNB.out
        unfold due wrap64
        omega
      simp only [] at HT
      rw [← hT] at HT
      rw [hTT]
      clear hTT hT
      clear c0 c1 c2 c3 c4 c5 c6
      by_cases hw : what = 0
      · subst hw
        have k := StpAt.new wr ⟨0, T, T, len, flow, band, mark⟩ rfl (E := 92)
        have kf : (wr.alloc (.cells #[.int .i64 0, .int .i64 T, .int .i64 T, .int .i64 len, .int .i64 flow, .int .i64 band, .int .i64 mark] 92)).frozen? ⟨wr.heap.size, 0, none⟩ = false := by simp
        have kl : wr.heap.size < (wr.alloc (.cells #[.int .i64 0, .int .i64 T, .int .i64 T, .int .i64 len, .int .i64 flow, .int .i64 band, .int .i64 mark] 92)).heap.size := by simp
        have HK := Lib.hid (And.intro k (And.intro kf kl))
        clear k kf kl
        by_cases hok : (⟨T, len, flow, band, mark⟩ : Itm).ok
        · have HOK := Lib.hid hok
          clear hok
          go_wp2_with (first
            | (go_at_call 33; refine (icheck_ok ⟨T, len, flow, band, mark⟩ _ HOK.out).mono ?_; rintro e w1 ⟨rfl, hg1⟩; have HG1 := Lib.hid hg1; have HQ := Lib.hid ((HGW.out.alloc _).trans hg1); have HROW2 := Lib.hid (HROW.out.gr (((Gr.refl _).alloc _).trans hg1)); obtain ⟨k0, k1, k2, k3, k4, k5, k6⟩ := HK.out.1.gr hg1; clear hg1 HROW; have HROW := HROW2; clear HROW2)
            | (at_builtin; refine wpList_append_RowS rfl _ _ _ (by rfl) i0 Stp.zero.val Tryz.underlying26 hi0 hz0 hz1 hz2 rfl ?c1 (by rfl) (HROW.out.gr ((Gr.refl _).alloc _)) ⟨w1.heap.size, 0, none⟩ 1 [(⟨0, T, ⟨T, len, flow, band, mark⟩⟩ : Stp)] (by rfl) (by simp) ?c3 ?c2 ?_; (case c1 => (intro u hu; exact (Stp.cells_int .zero u (by simpa [Stp.val, Value.cells, Stp.cells] using hu)).2)); (case c3 => (rw [flatS_one]; exact (StpAt.new w1 (⟨0, T, ⟨T, len, flow, band, mark⟩⟩ : Stp) rfl).news)); (case c2 => (have := HN.out; rw [timesOf_length, List.length_take]; simp; omega)); intro v' w' hrow hgr hown; have HR := Lib.hid hrow; have HG := Lib.hid hgr; have HO := Lib.hid hown; clear hrow hgr hown))
          all_goals (try (exfalso; omega))
          go_wp2
          rw [show wrap64 ((j : Int) + 1) = ((j + 1 : Nat) : Int) from by have := HN.out; unfold wrap64; omega]
          go_roundw
          case measure => simp [intOf]; omega
          case rel =>
            refine ⟨j + 1, by omega, rfl, congrArg (Value.int .i64) HT.out.2.symm, ?_, ?_, fun g hg => ?_⟩
            · rw [HT.out.1, stepAt_fine (fun _ => HOK.out)]; exact HR.out
            · exact gr_grown HG.out ((HQ.out).alloc _) fun k hk => HU.out k hk
            · rcases HO.out g hg with h1 | h1
              · exact HU.out g h1
              · have := HQ.out.size; simp at h1; omega
        · have HOK := Lib.hid hok
          clear hok
          go_upto_region 11 with (go_at_call 33; refine (icheck_bad ⟨T, len, flow, band, mark⟩ _ HOK.out).mono ?_; rintro e w1 ⟨rfl, hg1⟩; have HG1 := Lib.hid hg1; obtain ⟨k0, k1, k2, k3, k4, k5, k6⟩ := HK.out.1.gr hg1; have kf := (hg1.frozen (p := ⟨wr.heap.size, 0, none⟩) HK.out.2.2).trans HK.out.2.1; clear hg1)
          obtain ⟨w2, hw2⟩ : ∃ w2, w2 = w1.setCell ⟨wr.heap.size, 0, none⟩ (.int .i64 2) := ⟨_, rfl⟩
          have hsv : Sav (fun q => q = wr.heap.size) w1 w2 := by rw [hw2]; exact .set wr.heap.size 0 (.int .i64 2)
          have HQ1 := (HGW.out.alloc _).trans HG1.out
          have hROW2 := hROW.gr (((Gr.refl _).alloc _).trans HG1.out)
          have HROW2 := Lib.hid (hROW2.sav hsv (fun g hg e => by have := (hROW.lt hg); omega))
          have HQ := Lib.hid (Sav.gr HQ1 hsv (fun q e => by rw [e]; exact HGW.out.size))
          have HKK := Lib.hid (show StpAt w2 wr.heap.size 0 ⟨2, T, ⟨T, len, flow, band, mark⟩⟩ from by
            rw [hw2]
            exact ⟨cell_ss k0, cell_so k1 (by simp), cell_so k2 (by simp), cell_so k3 (by simp), cell_so k4 (by simp), cell_so k5 (by simp), cell_so k6 (by simp)⟩)
          rw [← hw2]
          clear hw2 hsv HQ1 hROW2 HROW k0 k1 k2 k3 k4 k5 k6 kf
          have HROW := HROW2
          clear HROW2
          obtain ⟨k0, k1, k2, k3, k4, k5, k6⟩ := HKK.out
          go_wp2_with (at_builtin; refine wpList_append_RowS rfl _ _ _ (by rfl) i0 Stp.zero.val Tryz.underlying26 hi0 hz0 hz1 hz2 rfl ?c1 (by rfl) (HROW.out.gr ((Gr.refl _).alloc _)) ⟨w2.heap.size, 0, none⟩ 1 [(⟨2, T, ⟨T, len, flow, band, mark⟩⟩ : Stp)] (by rfl) (by simp) ?c3 ?c2 ?_; (case c1 => (intro u hu; exact (Stp.cells_int .zero u (by simpa [Stp.val, Value.cells, Stp.cells] using hu)).2)); (case c3 => (rw [flatS_one]; exact (StpAt.new w2 (⟨2, T, ⟨T, len, flow, band, mark⟩⟩ : Stp) rfl).news)); (case c2 => (have := HN.out; rw [timesOf_length, List.length_take]; simp; omega)); intro v' w' hrow hgr hown; have HR := Lib.hid hrow; have HG := Lib.hid hgr; have HO := Lib.hid hown; clear hrow hgr hown)
          all_goals (try (exfalso; omega))
          go_wp2
          rw [show wrap64 ((j : Int) + 1) = ((j + 1 : Nat) : Int) from by have := HN.out; unfold wrap64; omega]
          go_roundw
          case measure => simp [intOf]; omega
          case rel =>
            refine ⟨j + 1, by omega, rfl, congrArg (Value.int .i64) HT.out.2.symm, ?_, ?_, fun g hg => ?_⟩
            · rw [HT.out.1, stepAt_bad rfl HOK.out]; exact HR.out
            · exact gr_grown HG.out ((HQ.out).alloc _) fun k hk => HU.out k hk
            · rcases HO.out g hg with h1 | h1
              · exact HU.out g h1
              · have := HQ.out.size; simp at h1; omega
      · have hb0 : (what == 0) = false := by simp [hw]
        have HWN := Lib.hid hw
        obtain ⟨k0, k1, k2, k3, k4, k5, k6⟩ := StpAt.new wr ⟨what, T, T, len, flow, band, mark⟩ rfl (E := 92)
        have HQ := Lib.hid (HGW.out.alloc (.cells #[.int .i64 what, .int .i64 T, .int .i64 T, .int .i64 len, .int .i64 flow, .int .i64 band, .int .i64 mark] 92))
        have HROW2 := Lib.hid (HROW.out.gr ((Gr.refl wr).alloc (.cells #[.int .i64 what, .int .i64 T, .int .i64 T, .int .i64 len, .int .i64 flow, .int .i64 band, .int .i64 mark] 92)))
        clear HROW
        have HROW := HROW2
        clear HROW2
        obtain ⟨w1, hw1⟩ : ∃ w1, w1 = wr.alloc (.cells #[.int .i64 what, .int .i64 T, .int .i64 T, .int .i64 len, .int .i64 flow, .int .i64 band, .int .i64 mark] 92) := ⟨_, rfl⟩
        rw [← hw1] at k0 k1 k2 k3 k4 k5 k6 HQ HROW ⊢
        clear hw1
        go_wp2_with (at_builtin; refine wpList_append_RowS rfl _ _ _ (by rfl) i0 Stp.zero.val Tryz.underlying26 hi0 hz0 hz1 hz2 rfl ?c1 (by rfl) (HROW.out.gr ((Gr.refl _).alloc _)) ⟨w1.heap.size, 0, none⟩ 1 [(⟨what, T, ⟨T, len, flow, band, mark⟩⟩ : Stp)] (by rfl) (by simp) ?c3 ?c2 ?_; (case c1 => (intro u hu; exact (Stp.cells_int .zero u (by simpa [Stp.val, Value.cells, Stp.cells] using hu)).2)); (case c3 => (rw [flatS_one]; exact (StpAt.new w1 (⟨what, T, ⟨T, len, flow, band, mark⟩⟩ : Stp) rfl).news)); (case c2 => (have := HN.out; rw [timesOf_length, List.length_take]; simp; omega)); intro v' w' hrow hgr hown; have HR := Lib.hid hrow; have HG := Lib.hid hgr; have HO := Lib.hid hown; clear hrow hgr hown)
        all_goals (try (exfalso; omega))
        go_wp2
        rw [show wrap64 ((j : Int) + 1) = ((j + 1 : Nat) : Int) from by have := HN.out; unfold wrap64; omega]
        go_roundw
        case measure => simp [intOf]; omega
        case rel =>
          refine ⟨j + 1, by omega, rfl, congrArg (Value.int .i64) HT.out.2.symm, ?_, ?_, fun g hg => ?_⟩
          · rw [HT.out.1, stepAt_fine (fun h => absurd h HWN.out)]; exact HR.out
          · exact gr_grown HG.out ((HQ.out).alloc _) fun k hk => HU.out k hk
          · rcases HO.out g hg with h1 | h1
            · exact HU.out g h1
            · have := HQ.out.size; simp at h1; omega
    · obtain rfl : j = xs.length := by omega
      rw [List.take_length] at HW
      go_wp2
      go_ret
      exact ⟨_, rfl, HW.out.1, HW.out.2.1, HW.out.2.2⟩
end Go.Proofs.YtgifghbnpdanhaaGreatDoor

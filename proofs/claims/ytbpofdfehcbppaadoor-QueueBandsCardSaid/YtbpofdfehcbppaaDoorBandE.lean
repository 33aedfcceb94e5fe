/-
  millracelaw.QueueBands, walked.
-/
import Derived.Test.YtbpofdfehcbppaaDoorBandD
import Derived.Test.YtbpofdfehcbppaaDoorFifoC
import Derived.Test.YtbpofdfehcbppaaDoorFifoS
import Derived.Test.YtbpofdfehcbppaaDoorPlayD
namespace Go.Proofs.YtbpofdfehcbppaaDoor
open Go.RowKit Go.Extern.Stop Go.Stop Go.Extern

theorem fifo_mu_put (P R : Int) (head : Bool) (l : List Hel) (t : Int) (x : Hel) : ((fifo P R head).put l t x).1.length + ((fifo P R head).put l t x).2.length ≤ l.length + 1 := by
  cases head with
  | true =>
    rw [fifo_head]
    have h := shed_len P R (l ++ [x])
    simp at h ⊢
    omega
  | false =>
    by_cases hf : Full P R (l ++ [x])
    · rw [fifo_full hf]; simp
    · rw [fifo_fits hf]; simp
theorem fifo_mu_take (P R : Int) (head : Bool) (l : List Hel) (t : Int) : ((fifo P R head).take l t).1.length + ((fifo P R head).take l t).2.2.1.length ≤ l.length := by
  cases l with
  | nil => exact Nat.le_refl _
  | cons x r => exact Nat.le_succ _
theorem fifo_more (N0 p : Nat) (P R : Int) (head : Bool) : More (fifoSide N0 p P R head) List.length where
  up h hn := ⟨h.at_, h.ok.up hn, h.lo⟩
  few h := ⟨Nat.le_refl _, h.ok.few⟩
  put _ _ := fifo_mu_put P R head _ _ _
  take _ _ := fifo_mu_take P R head _ _
  when_ _ _ := Nat.le_refl _
theorem rfifo_more (N0 p : Nat) (P R : Int) (head : Bool) : More (rfifoSide N0 p P R head) List.length where
  up h hn := ⟨h.at_, h.ok.up hn, h.lo⟩
  few h := ⟨Nat.le_refl _, h.ok.few⟩
  put _ _ := fifo_mu_put P R head _ _ _
  take _ _ := fifo_mu_take P R head _ _
  when_ _ _ := Nat.le_refl _
/-- Fifos of any room. -/
def fifoU : Mach (Int × List Hel) where
  put a t x := ((a.1, ((fifo a.1 1000000 false).put a.2 t x).1), ((fifo a.1 1000000 false).put a.2 t x).2)
  take a t := ((a.1, ((fifo a.1 1000000 false).take a.2 t).1), ((fifo a.1 1000000 false).take a.2 t).2)
  when_ a t := ((a.1, ((fifo a.1 1000000 false).when_ a.2 t).1), ((fifo a.1 1000000 false).when_ a.2 t).2)
  all a := a.2
theorem fifo_emb (P : Int) : Emb (fifo P 1000000 false) fifoU (fun l => (P, l)) := ⟨fun _ _ _ => rfl, fun _ _ => rfl, fun _ _ => rfl, fun _ => rfl⟩
def fifoMu (a : Int × List Hel) : Nat := a.2.length
/-- What is built so far: rooms, where the program's lie, where the reference's. -/
structure QBuild (W wr : World) (wb : Nat) (v u : Value) (ps : List (Int × Nat × Nat)) : Prop where
  gr : Gr W wr
  row : RowQ 98 wr v (ps.map fun t => .iface 25 (.pointer (some ⟨t.2.1, 0, none⟩)))
  lown : ∀ g, v.ownBlock = some g → W.heap.size ≤ g
  wc : wr.cell? ⟨wb, 0, none⟩ = some u
  wf : wr.frozen? ⟨wb, 0, none⟩ = false
  wlo : W.heap.size ≤ wb
  row2 : RowQ 100 wr u (ps.map fun t => .iface 37 (.pointer (some ⟨t.2.2, 0, none⟩)))
  uown : ∀ g, u.ownBlock = some g → W.heap.size ≤ g
  f : ∀ (i : Nat) (t : Int × Nat × Nat), ps[i]? = some t → FifoAt wr t.2.1 (.slice none 0 0) [] t.1 1000000 false ∧ RFifoAt wr t.2.2 (.slice none 0 0) [] t.1 1000000 false ∧ (0 ≤ t.1 ∧ t.1 ≤ 8) ∧ wb < t.2.1 ∧ t.2.1 < t.2.2
  o : ∀ (i j : Nat) (a b : Int × Nat × Nat), i < j → ps[i]? = some a → ps[j]? = some b → a.2.2 < b.2.1
section
variable {W wr w' : World} {wb : Nat} {v u v' u' : Value} {ps : List (Int × Nat × Nat)}
theorem QBuild.ne (h : QBuild W wr wb v u ps) : v.ownBlock ≠ some wb ∧ u.ownBlock ≠ some wb := by
  obtain ⟨a, c, e⟩ := h.row2.shape
  have hc := h.wc
  rw [e] at hc
  exact ⟨h.row.ne hc notQ_slice, h.row2.ne hc notQ_slice⟩
theorem QBuild.fne (h : QBuild W wr wb v u ps) {i : Nat} {t : Int × Nat × Nat} (ht : ps[i]? = some t) : (v.ownBlock ≠ some t.2.1 ∧ u.ownBlock ≠ some t.2.1 ∧ t.2.1 ≠ wb) ∧ (v.ownBlock ≠ some t.2.2 ∧ u.ownBlock ≠ some t.2.2 ∧ t.2.2 ≠ wb) := by
  obtain ⟨h1, h2, _, h3, h4⟩ := h.f i t ht
  exact ⟨⟨h.row.ne h1.l.c1 notQ_int, h.row2.ne h1.l.c1 notQ_int, by omega⟩, ⟨h.row.ne h2.c0 notQ_int, h.row2.ne h2.c0 notQ_int, by omega⟩⟩
theorem QBuild.fgr (h : QBuild W wr wb v u ps) (k : Gr wr w') : QBuild W w' wb v u ps :=
  ⟨h.gr.trans k, h.row.gr k, h.lown, k.cell h.wc, (k.frozen (p := ⟨wb, 0, none⟩) (cell_lt h.wc)).trans h.wf, h.wlo, h.row2.gr k, h.uown, fun i t ht => ⟨(h.f i t ht).1.gr k, (h.f i t ht).2.1.gr k, (h.f i t ht).2.2⟩, h.o⟩
/-- One more. -/
theorem QBuild.snoc (h : QBuild W wr wb v u ps) {P : Int} {p r : Nat} (hP : 0 ≤ P ∧ P ≤ 8) (s : Sav (fun g => v.ownBlock = some g ∨ u.ownBlock = some g ∨ g = wb) wr w')
    (h1 : RowQ 98 w' v' (ps.map (fun t => Value.iface 25 (.pointer (some ⟨t.2.1, 0, none⟩))) ++ [.iface 25 (.pointer (some ⟨p, 0, none⟩))])) (o1 : ∀ g, v'.ownBlock = some g → v.ownBlock = some g ∨ wr.heap.size ≤ g)
    (h2 : RowQ 100 w' u' (ps.map (fun t => Value.iface 37 (.pointer (some ⟨t.2.2, 0, none⟩))) ++ [.iface 37 (.pointer (some ⟨r, 0, none⟩))])) (o2 : ∀ g, u'.ownBlock = some g → u.ownBlock = some g ∨ wr.heap.size ≤ g)
    (hc : w'.cell? ⟨wb, 0, none⟩ = some u') (hf : w'.frozen? ⟨wb, 0, none⟩ = false) (hp : FifoAt w' p (.slice none 0 0) [] P 1000000 false) (hr : RFifoAt w' r (.slice none 0 0) [] P 1000000 false) (hlt : wr.heap.size ≤ p ∧ p < r) : QBuild W w' wb v' u' (ps ++ [(P, p, r)]) := by
  have hsz := h.gr.size
  refine ⟨Sav.gr h.gr s (fun q e => e.elim (h.lown q) (fun e => e.elim (h.uown q) (fun e => by rw [e]; exact h.wlo))), by rw [List.map_append]; exact h1, fun g hg => (o1 g hg).elim (h.lown g) (fun e => by omega), hc, hf, h.wlo, by rw [List.map_append]; exact h2, fun g hg => (o2 g hg).elim (h.uown g) (fun e => by omega), fun i t ht => ?_, fun i j a b hij ha hb => ?_⟩
  · rcases Nat.lt_or_ge i ps.length with hi | hi
    · rw [List.getElem?_append_left hi] at ht
      obtain ⟨n1, n2⟩ := h.fne ht
      obtain ⟨f1, f2, f3⟩ := h.f i t ht
      exact ⟨f1.sav s (fun e => e.elim n1.1 (fun e => e.elim n1.2.1 n1.2.2)) (fun g hg => by cases hg), f2.sav s (fun e => e.elim n2.1 (fun e => e.elim n2.2.1 n2.2.2)) (fun g hg => by cases hg), f3⟩
    · rw [List.getElem?_append_right hi] at ht
      have hi0 : i - ps.length = 0 := by
        rcases Nat.eq_zero_or_pos (i - ps.length) with h0 | h0
        · exact h0
        · rw [List.getElem?_eq_none (by simp; omega)] at ht; cases ht
      rw [hi0] at ht
      obtain rfl := Option.some.inj ht
      have hw : wb < wr.heap.size := cell_lt h.wc
      exact ⟨hp, hr, hP, by simp only; omega, hlt.2⟩
  · rcases Nat.lt_or_ge j ps.length with hj | hj
    · rw [List.getElem?_append_left hj] at hb
      rw [List.getElem?_append_left (by omega)] at ha
      exact h.o i j a b hij ha hb
    · rw [List.getElem?_append_right hj] at hb
      have hj0 : j - ps.length = 0 := by
        rcases Nat.eq_zero_or_pos (j - ps.length) with h0 | h0
        · exact h0
        · rw [List.getElem?_eq_none (by simp; omega)] at hb; cases hb
      rw [hj0] at hb
      obtain rfl := Option.some.inj hb
      rw [List.getElem?_append_left (by omega)] at ha
      have h1 := cell_lt (h.f i a ha).2.1.c0
      simp only at h1 ⊢
      omega
end
theorem bands_play (W wr Wn : World) {wb pb : Nat} {v u vb : Value} {ps : List (Int × Nat × Nat)} (h : QBuild W wr wb v u ps) (hn : 1 ≤ ps.length ∧ ps.length ≤ 8) (hg : Gr wr Wn) (hc : Wn.cell? ⟨pb, 0, none⟩ = some vb)
    (hb : RowQ 98 Wn vb (ps.map fun t => .iface 25 (.pointer (some ⟨t.2.1, 0, none⟩)))) (h1 : wr.heap.size ≤ pb) (h2 : ∀ g, vb.ownBlock = some g → wr.heap.size ≤ g) {sv : Value} {xs : List Stp} (hx : StpIn Wn sv xs) (hl : xs.length ≤ 120) :
    Calls Tryd.prog 12 #[.iface 49 (.pointer (some ⟨pb, 0, none⟩)), .iface 44 (.pointer (some ⟨wb, 0, none⟩)), sv, .nilFunc] Wn fun e w' => e = .returned (.bool true) ∧ Gr W w' := by
  have hgw := h.gr.trans hg
  have hsz := h.gr.size
  have hQ := h.fgr hg
  obtain ⟨k, hk⟩ : ∃ k, k = ps.length := ⟨_, rfl⟩
  have get : ∀ i, i < k → ∃ t, ps[i]? = some t ∧ ps.getD i (0, 0, 0) = t := fun i hi => ⟨_, List.getElem?_eq_getElem (by omega), by rw [List.getD_eq_getElem?_getD, List.getElem?_eq_getElem (by omega : i < ps.length)]; rfl⟩
  obtain ⟨ob, off, cap, hvb, hcap, hel⟩ := hb.cells (by simp; omega)
  obtain ⟨ob2, off2, cap2, hu2, hcap2, hel2⟩ := hQ.row2.cells (by simp; omega)
  rw [List.length_map, ← hk] at hvb hcap hu2 hcap2
  have hobl : wr.heap.size ≤ ob := h2 ob (by rw [hvb]; rfl)
  have hob2 : W.heap.size ≤ ob2 := h.uown ob2 (by rw [hu2]; rfl)
  have hob2l : ob2 < wr.heap.size := h.row2.lt (by rw [hu2]; rfl)
  have hwbl : wb < wr.heap.size := cell_lt h.wc
  have hwlo := h.wlo
  have fl : ∀ (i : Nat) (t : Int × Nat × Nat), ps[i]? = some t → t.2.2 < wr.heap.size := fun i t ht => by have := cell_lt (h.f i t ht).2.1.c0; simpa using this
  have f2 : ∀ (i : Nat) (t : Int × Nat × Nat), ps[i]? = some t → t.2.1 ≠ ob2 ∧ t.2.2 ≠ ob2 := fun i t ht => ⟨fun e => (h.fne ht).1.2.1 (by rw [hu2, e]; rfl), fun e => (h.fne ht).2.2.1 (by rw [hu2, e]; rfl)⟩
  have hwo : wb ≠ ob2 := fun e => h.ne.2 (by rw [hu2, e]; rfl)
  have dis : ∀ (i j : Nat) (a b : Int × Nat × Nat), i < k → j < k → i ≠ j → ps[i]? = some a → ps[j]? = some b → a.2.1 ≠ b.2.1 ∧ a.2.2 ≠ b.2.2 := fun i j a b _ _ hij ha hb => by
    have ea := h.f i a ha
    have eb := h.f j b hb
    rcases Nat.lt_or_ge i j with hlt | hge
    · have := h.o i j a b hlt ha hb; omega
    · have := h.o j i b a (by omega) hb ha; omega
  have dis2 : ∀ (i j : Nat) (a b : Int × Nat × Nat), ps[i]? = some a → ps[j]? = some b → a.2.1 ≠ b.2.2 := fun i j a b ha hb => by
    have ea := h.f i a ha
    have eb := h.f j b hb
    rcases Nat.lt_trichotomy i j with hlt | rfl | hge
    · have := h.o i j a b hlt ha hb; omega
    · rw [ha] at hb
      obtain rfl := Option.some.inj hb
      omega
    · have := h.o j i b a hge hb ha; omega
  let pt : Nat → Int × Nat × Nat := fun i => ps.getD i (0, 0, 0)
  let S : Nat → Side fifoU W.heap.size (Nat → Prop) := fun i => (fifoSide W.heap.size (pt i).2.1 (pt i).1 1000000 false).into fifoU (fun l => ((pt i).1, l))
  let T : Nat → Side fifoU W.heap.size (Nat → Prop) := fun i => (rfifoSide W.heap.size (pt i).2.2 (pt i).1 1000000 false).into fifoU (fun l => ((pt i).1, l))
  have hFS : ∀ i b g, (S i).F b g ↔ b g := fun _ _ _ => Iff.rfl
  have hFT : ∀ i b g, (T i).F b g ↔ b g := fun _ _ _ => Iff.rfl
  have hPS : ∀ i, i < k → PSide (S i) (.iface 25 (.pointer (some ⟨(pt i).2.1, 0, none⟩))) := fun i hi => by
    obtain ⟨t, ht, et⟩ := get i hi
    have hb := (h.f i t ht).2.2.1
    exact (fifo_pside (p := (pt i).2.1) (P := (pt i).1) (by show 0 ≤ (ps.getD i (0, 0, 0)).1 ∧ _; rw [show pt i = t from et, et]; omega) (by decide)).into (fifo_emb _)
  have hRS : ∀ i, i < k → RSide (T i) (.iface 37 (.pointer (some ⟨(pt i).2.2, 0, none⟩))) := fun i hi => by
    obtain ⟨t, ht, et⟩ := get i hi
    have hb := (h.f i t ht).2.2.1
    exact (rfifo_side (p := (pt i).2.2) (P := (pt i).1) (by show 0 ≤ (ps.getD i (0, 0, 0)).1 ∧ _; rw [show pt i = t from et, et]; omega) (by decide)).into (fifo_emb _)
  have hMS : ∀ i, i < k → More (S i) fifoMu := fun i _ => (fifo_more _ _ _ _ _).into (fifo_emb _) (fun _ => rfl)
  have hMT : ∀ i, i < k → More (T i) fifoMu := fun i _ => (rfifo_more _ _ _ _ _).into (fifo_emb _) (fun _ => rfl)
  have hmu : muL fifoMu (ps.map fun t => (t.1, ([] : List Hel))) = 0 := by
    clear hk get hQ hn hb hel hel2 fl f2 dis dis2 h pt S T hFS hFT hPS hRS hMS hMT
    induction ps with
    | nil => rfl
    | cons a r ih => simp [muL, fifoMu, ih]
  have hBS : BD k (fun i => .iface 25 (.pointer (some ⟨(pt i).2.1, 0, none⟩))) S fifoMu pb ob off cap Wn (fun i => LFoot (pt i).2.1 (.slice none 0 0)) (ps.map fun t => (t.1, ([] : List Hel))) 0 := by
    refine ⟨by simp [hk], ⟨by omega, by omega⟩, hcap, by rw [hc, hvb], fun i hi => ?_, fun i a ha => ?_, fun i j g hi hj hij hg hg' => ?_, fun i hi => ?_, ⟨by omega, by omega⟩, by rw [hmu]; exact Nat.zero_le _, by omega⟩
    · obtain ⟨t, ht, et⟩ := get i hi
      refine hel i _ ?_
      rw [List.getElem?_map, ht]
      show some _ = some _
      rw [show pt i = t from et]
    · have hi : i < k := by have := (List.getElem?_eq_some_iff.1 ha).1; simpa [hk] using this
      obtain ⟨t, ht, et⟩ := get i hi
      rw [List.getElem?_map, ht] at ha
      obtain rfl := Option.some.inj ha
      obtain ⟨f1, _, _, f4, f5⟩ := hQ.f i t ht
      refine ⟨.slice none 0 0, [], by rw [show pt i = t from et], ⟨by rw [show pt i = t from et]; exact f1, .nil, by rw [show pt i = t from et]; omega, fun g hg => by cases hg⟩, fun _ => Iff.rfl⟩
    · obtain ⟨t, ht, et⟩ := get i hi
      obtain ⟨t', ht', et'⟩ := get j hj
      rcases hg with e | e
      · rcases hg' with e' | e'
        · rw [show pt i = t from et] at e
          rw [show pt j = t' from et'] at e'
          exact (dis i j t t' hi hj hij ht ht').1 (e.symm.trans e')
        · cases e'
      · cases e
    · obtain ⟨t, ht, et⟩ := get i hi
      have := fl i t ht
      have := (h.f i t ht).2.2.2
      rw [show pt i = t from et]
      exact ⟨fun e => e.elim (fun e => by omega) (fun e => by cases e), fun e => e.elim (fun e => by omega) (fun e => by cases e)⟩
  have hBT : BD k (fun i => .iface 37 (.pointer (some ⟨(pt i).2.2, 0, none⟩))) T fifoMu wb ob2 off2 cap2 Wn (fun i => LFoot (pt i).2.2 (.slice none 0 0)) (ps.map fun t => (t.1, ([] : List Hel))) 0 := by
    refine ⟨by simp [hk], ⟨by omega, by omega⟩, hcap2, by rw [hQ.wc, hu2], fun i hi => ?_, fun i a ha => ?_, fun i j g hi hj hij hg hg' => ?_, fun i hi => ?_, ⟨by omega, by omega⟩, by rw [hmu]; exact Nat.zero_le _, by omega⟩
    · obtain ⟨t, ht, et⟩ := get i hi
      refine hel2 i _ ?_
      rw [List.getElem?_map, ht]
      show some _ = some _
      rw [show pt i = t from et]
    · have hi : i < k := by have := (List.getElem?_eq_some_iff.1 ha).1; simpa [hk] using this
      obtain ⟨t, ht, et⟩ := get i hi
      rw [List.getElem?_map, ht] at ha
      obtain rfl := Option.some.inj ha
      obtain ⟨_, f1, _, f4, f5⟩ := hQ.f i t ht
      refine ⟨.slice none 0 0, [], by rw [show pt i = t from et], ⟨by rw [show pt i = t from et]; exact f1, .nil, by rw [show pt i = t from et]; omega, fun g hg => by cases hg⟩, fun _ => Iff.rfl⟩
    · obtain ⟨t, ht, et⟩ := get i hi
      obtain ⟨t', ht', et'⟩ := get j hj
      rcases hg with e | e
      · rcases hg' with e' | e'
        · rw [show pt i = t from et] at e
          rw [show pt j = t' from et'] at e'
          exact (dis i j t t' hi hj hij ht ht').2 (e.symm.trans e')
        · cases e'
      · cases e
    · obtain ⟨t, ht, et⟩ := get i hi
      have h3 := (f2 i t ht).2
      have h4 := (h.f i t ht).2.2.2
      rw [show pt i = t from et]
      exact ⟨fun e => e.elim (fun e => by omega) (fun e => by cases e), fun e => e.elim (fun e => h3 e.symm) (fun e => by cases e)⟩
  refine (played_any (bSide_p (0, []) pb hFS (fun i _ => ⟨_, _, rfl⟩) hPS hMS) (rbSide_r (0, []) wb hFT (fun i _ => ⟨_, _, rfl⟩) hRS hMT) Wn _ _ _ ⟨⟨ob, off, cap, _, hBS, fun _ => Iff.rfl⟩, ⟨ob2, off2, cap2, _, hBT, fun _ => Iff.rfl⟩, fun g hg hg' => ?_⟩ (Nat.le_trans hsz hg.size) sv xs hx hl .nilFunc (.inl rfl)).mono fun e w' ⟨h3, h4⟩ => ⟨h3, Sav.gr hgw h4 fun q hq => hq⟩
  have up : ∀ g, BF k wb ob2 (fun i => LFoot (pt i).2.2 (.slice none 0 0)) g → g < wr.heap.size := fun g hg => by
    rcases hg with e | e | ⟨i, hi, e⟩
    · omega
    · omega
    · obtain ⟨t, ht, et⟩ := get i hi
      have := fl i t ht
      rcases e with e | e
      · rw [show pt i = t from et] at e; omega
      · cases e
  rcases hg with e | e | ⟨i, hi, e⟩
  · have := up g hg'; omega
  · have := up g hg'; omega
  · obtain ⟨t, ht, et⟩ := get i hi
    have h5 := (h.f i t ht).2.2.2
    have h6 := (f2 i t ht).1
    rcases e with e | e
    · rw [show pt i = t from et] at e
      rcases hg' with e' | e' | ⟨j, hj, e'⟩
      · omega
      · exact h6 (e.symm.trans e')
      · obtain ⟨t', ht', et'⟩ := get j hj
        rcases e' with e' | e'
        · rw [show pt j = t' from et'] at e'
          exact dis2 i j t t' ht ht' (e.symm.trans e')
        · cases e'
    · cases e
end Go.Proofs.YtbpofdfehcbppaaDoor

/-
  item.List, millraceref.ListCheck.
-/
import Derived.Test.YtofhmbbodoedjaaDoorItemA
namespace Go.Proofs.YtofhmbbodoedjaaDoor
open Go.RowKit Go.Extern.Stop Go.Stop Go.Extern

/-- millraceref.Fine is laid. -/
def FineIs (w : World) : Prop := w.cell? ⟨0, 0, none⟩ = some (.int .i64 0) ∧ w.cell? ⟨0, 1, none⟩ = some (.int .i64 (-1))
theorem FineIs.gr {w w' : World} (h : FineIs w) (g : Gr w w') : FineIs w' := ⟨g.cell h.1, g.cell h.2⟩

noncomputable def listAt (l : List Itm) (i : Nat) : Int :=
  if ckItem (l.getD i .zero) ≠ 0 then 2 else if 0 < i ∧ (l.getD i .zero).t < (l.getD (i - 1) .zero).t then 10 else 0
noncomputable def listCode (l : List Itm) : Int := if 100 < l.length then 4 else firstOf (listAt l) l.length
noncomputable def listPlace (l : List Itm) : Int := if 100 < l.length then -1 else firstIx (listAt l) l.length

theorem listAt_bad {l : List Itm} {i : Nat} {x : Itm} (hx : l.getD i .zero = x) (h : ¬ x.ok) : listAt l i = 2 := by
  unfold listAt; rw [hx, ckItem_no h, if_pos (by decide)]
theorem listAt_order {l : List Itm} {i : Nat} {x y : Itm} (hx : l.getD i .zero = x) (hy : l.getD (i - 1) .zero = y) (h : x.ok) (h0 : 0 < i) (h1 : x.t < y.t) : listAt l i = 10 := by
  unfold listAt; rw [hx, hy, ckItem_ok h, if_neg (by decide), if_pos ⟨h0, h1⟩]
theorem listAt_ok {l : List Itm} {i : Nat} {x y : Itm} (hx : l.getD i .zero = x) (hy : l.getD (i - 1) .zero = y) (h : x.ok) (h1 : 0 < i → ¬ x.t < y.t) : listAt l i = 0 := by
  unfold listAt; rw [hx, hy, ckItem_ok h, if_neg (by decide), if_neg (fun hh => h1 hh.1 hh.2)]
theorem list_many {l : List Itm} (h : 100 < l.length) : listCode l = 4 ∧ listPlace l = -1 := by
  unfold listCode listPlace; rw [if_pos h, if_pos h]; exact ⟨rfl, rfl⟩
theorem list_at {l : List Itm} {n k : Nat} {c : Int} (hn : l.length = n) (h : ¬ 100 < n) (hj : ∀ j, j < k → listAt l j = 0) (hk : k < n) (hc : listAt l k = c) (h0 : c ≠ 0) : listCode l = c ∧ listPlace l = (k : Int) := by
  unfold listCode listPlace; rw [hn, if_neg h, if_neg h]; exact ⟨firstOf_at hj hk hc h0, firstIx_at hj hk (by rw [hc]; exact h0)⟩
theorem list_fine {l : List Itm} {n : Nat} (hn : l.length = n) (h : ¬ 100 < n) (hj : ∀ j, j < n → listAt l j = 0) : listCode l = 0 ∧ listPlace l = -1 := by
  unfold listCode listPlace; rw [hn, if_neg h, if_neg h]; exact ⟨firstOf_zero hj, firstIx_zero hj⟩

/-- What item.List tells. -/
def ListIs (w : World) (l : List Itm) (e : Ending) (w' : World) : Prop :=
  ∃ v, e = .returned v ∧ ErrIs w' v (listCode l) (listPlace l) ∧ (listCode l = 0 → v = .nilIface) ∧ (listCode l ≠ 0 → ∃ t x, v = .iface t x) ∧ Gr w w'
theorem ListIs.nil {w w' : World} {l : List Itm} (h : listCode l = 0 ∧ listPlace l = -1) (hg : Gr w w') : ListIs w l (.returned .nilIface) w' :=
  ⟨_, rfl, .inl ⟨rfl, h.1, h.2⟩, fun _ => rfl, fun hh => absurd h.1 hh, hg⟩
theorem ListIs.no {w w' : World} {l : List Itm} {c : Int} (h : listCode l = c ∧ listPlace l = -1) (h0 : c ≠ 0) (hg : Gr w w') : ListIs w l (.returned (.iface 23 (.int .i64 c))) w' :=
  ⟨_, rfl, .inr (.inl ⟨by rw [h.1], h.2⟩), fun hh => absurd (h.1.symm.trans hh) h0, fun _ => ⟨_, _, rfl⟩, hg⟩
theorem ListIs.at {w w' : World} {l : List Itm} {c k : Int} {b o : Nat} (h : listCode l = c ∧ listPlace l = k) (h0 : c ≠ 0) (hc : w'.cell? ⟨b, o, none⟩ = some (.int .i64 c)) (hk : w'.cell? ⟨b, o + 1, none⟩ = some (.int .i64 k)) (hg : Gr w w') : ListIs w l (.returned (.iface 50 (.pointer (some ⟨b, o, none⟩)))) w' :=
  ⟨_, rfl, .inr (.inr ⟨b, o, rfl, by rw [h.1]; exact hc, by rw [h.2]; exact hk⟩), fun hh => absurd (h.1.symm.trans hh) h0, fun _ => ⟨_, _, rfl⟩, hg⟩

theorem ilist_many {l : List Itm} (a : Option Addr) (cap n : Nat) (w : World) (hn : l.length = n) (h : 100 < n) (hm : n ≤ 9223372036854775807) :
    Calls Tryd.prog 14 #[.slice a n cap] w (ListIs w l) := by
  have HL := Lib.hid (list_many (l := l) (by omega))
  clear hn
  go_enter Tryd.func14, Tryd.ntmps14
  go_wp2
  go_ret
  exact ListIs.no HL.out (by decide) (Gr.refl _)
theorem ilist_nil (a : Option Addr) (cap : Nat) (w : World) :
    Calls Tryd.prog 14 #[.slice a 0 cap] w (ListIs w []) := by
  go_enter Tryd.func14, Tryd.ntmps14
  go_wp2
  refine wp_loop_rounds 1 ?_
  rw [rounds_succ]
  go_wp2
  go_ret
  exact ListIs.nil (list_fine (l := []) (n := 0) rfl (by omega) (fun j hj => absurd hj (by omega))) (Gr.refl _)

set_option maxRecDepth 100000 in
set_option maxHeartbeats 4000000 in
theorem ilist_slice {l : List Itm} (b off cap n : Nat) (w : World) (hn : l.length = n) (h0 : 0 < n) (h100 : ¬ 100 < n) (hx : Hid (∀ i, i < n → ItemAt w b (off + i * 5) (l.getD i .zero))) (hg : Glob w) :
    Calls Tryd.prog 14 #[.slice (some ⟨b, off, none⟩) n cap] w (ListIs w l) := by
  have HGl := Lib.hid hg
  have HN := Lib.hid hn
  have H100 := Lib.hid h100
  have hn100 : n ≤ 100 := by omega
  clear hg hn h100
  go_enter Tryd.func14, Tryd.ntmps14
  go_wp2
  go_loopw [2, 12] (fun r i wr => r = .nilIface ∧ ∃ k : Nat, k ≤ n ∧ i = .int .i64 k ∧ Hid (∀ j, j < k → listAt l j = 0) ∧ Hid (Gr w wr)) (fun _ i _ => n - (intOf i).toNat)
  case atStart => exact ⟨rfl, 0, Nat.zero_le _, rfl, fun j hj => absurd hj (by omega), Gr.refl _⟩
  case round =>
    obtain ⟨rfl, k, hk, rfl, HZ, HG⟩ := hrel
    by_cases hlt : k < n
    · have hcells := hx.out k hlt
      generalize hxk : l.getD k .zero = x at hcells
      obtain ⟨t, len, flow, band, mark⟩ := x
      have HXK := Lib.hid hxk
      clear hxk
      have c0 := HG.out.cell hcells.c0
      have c1 := HG.out.cell hcells.c1
      have c2 := HG.out.cell hcells.c2
      have c3 := HG.out.cell hcells.c3
      have c4 := HG.out.cell hcells.c4
      clear hcells
      have i0 : (0 : Int) ≤ (k : Int) := by omega
      have i1 : (k : Int) < (n : Int) := by omega
      by_cases hok : (⟨t, len, flow, band, mark⟩ : Itm).ok
      · have HOK := Lib.hid hok
        clear hok
        go_wp2_with (go_at_call 24; refine (icheck_ok ⟨t, len, flow, band, mark⟩ _ HOK.out).mono ?_; rintro e w1 ⟨rfl, hg1⟩; have HG1 := Lib.hid ((HG.out.alloc _).trans hg1); have k0 := hg1.cell (show (wr.alloc (.cells #[.int .i64 t, .int .i64 len, .int .i64 flow, .int .i64 band, .int .i64 mark] 42)).cell? ⟨wr.heap.size, 0, none⟩ = some (.int .i64 t) by simp); clear hg1 c0 c1 c2 c3 c4)
        rcases Nat.eq_zero_or_pos k with hz | hz
        · subst hz
          have hd : decide ((0 : Int) < 0) = false := rfl
          go_quiet (fail)
          go_wp2
          go_roundw
          case rel => exact ⟨rfl, 1, by omega, rfl, okTo_succ HZ.out (listAt_ok HXK.out rfl HOK.out (fun hh => absurd hh (by omega))), HG1.out.drewN _⟩
          case measure => simp [intOf]; omega
        · have hcells := hx.out (k - 1) (by omega)
          generalize hyk : l.getD (k - 1) .zero = y at hcells
          obtain ⟨t', len', flow', band', mark'⟩ := y
          have HYK := Lib.hid hyk
          have p0 := HG1.out.cell hcells.c0
          clear hyk hcells
          have i2 : (0 : Int) < (k : Int) := by omega
          have i3 : (0 : Int) ≤ (k : Int) - 1 := by omega
          have i4 : (k : Int) - 1 < (n : Int) := by omega
          by_cases hord : t < t'
          · go_quiet (fail)
            go_wp2
            go_ret
            exact ListIs.at (list_at HN.out H100.out HZ.out hlt (listAt_order HXK.out HYK.out HOK.out hz hord) (by decide)) (by decide) (alloc_cell (w1.drewN nq) w1.heap.size rfl) (alloc_cell (w1.drewN nq) w1.heap.size rfl) ((HG1.out.drewN _).alloc _)
          · go_quiet (fail)
            go_wp2
            go_roundw
            case rel => exact ⟨rfl, k + 1, by omega, by go_num, okTo_succ HZ.out (listAt_ok HXK.out HYK.out HOK.out (fun _ => hord)), HG1.out.drewN _⟩
            case measure => simp [intOf]; omega
      · have HOK := Lib.hid hok
        clear hok
        go_wp2_with (first
          | (go_at_call 24; refine (icheck_bad ⟨t, len, flow, band, mark⟩ _ HOK.out).mono ?_; rintro e w1 ⟨rfl, hg1⟩; have HG1 := Lib.hid ((HG.out.alloc _).trans hg1); clear hg1 c0 c1 c2 c3 c4)
          | (go_at_call 15; refine (tell_no 2 _ (HGl.out.gr HG1.out)).mono ?_; rintro e w2 ⟨rfl, hg2⟩; have HG2 := Lib.hid (HG1.out.trans hg2); clear hg2))
        go_ret
        exact ListIs.at (list_at HN.out H100.out HZ.out hlt (listAt_bad HXK.out HOK.out) (by decide)) (by decide) (by simp) (by simp) (HG2.out.alloc _)
    · obtain rfl : k = n := by omega
      go_wp2
      go_ret
      exact ListIs.nil (list_fine HN.out H100.out HZ.out) HG.out
/-- item.List. -/
theorem ilist_any {v : Value} {l : List Itm} (w : World) (hx : Items w v l) (hg : Glob w) : Calls Tryd.prog 14 #[v] w (ListIs w l) := by
  by_cases h : 100 < l.length
  · have hm := hx.len
    obtain ⟨a, cap, rfl⟩ := items_shape hx
    exact ilist_many a cap _ w rfl h hm
  · rcases Nat.eq_zero_or_pos l.length with h0 | h0
    · obtain ⟨a, cap, rfl⟩ := items_shape hx
      obtain rfl := List.length_eq_zero_iff.1 h0
      exact ilist_nil a cap w
    · obtain ⟨b, off, cap, rfl, _, _, CX⟩ := items_cells hx h0
      exact ilist_slice b off cap _ w rfl h0 h CX hg
theorem ilist_ok {v : Value} {l : List Itm} (w : World) (hx : Items w v l) (hg : Glob w) (h : listCode l = 0) : Calls Tryd.prog 14 #[v] w fun e w' => e = .returned .nilIface ∧ Gr w w' :=
  (ilist_any w hx hg).mono fun e w' hh => by
    obtain ⟨v, he, _, h1, _, h2⟩ := hh
    rw [h1 h] at he
    exact ⟨he, h2⟩
theorem ilist_bad {v : Value} {l : List Itm} (w : World) (hx : Items w v l) (hg : Glob w) (h : listCode l ≠ 0) : Calls Tryd.prog 14 #[v] w fun e w' => ∃ t x, e = .returned (.iface t x) ∧ ErrIs w' (.iface t x) (listCode l) (listPlace l) ∧ Gr w w' :=
  (ilist_any w hx hg).mono fun e w' hh => by
    obtain ⟨v, he, h0, _, h1, h2⟩ := hh
    obtain ⟨t, x, rfl⟩ := h1 h
    exact ⟨t, x, he, h0, h2⟩
def faultV (c p : Int) : Value := .agg #[.int .i64 c, .int .i64 p]

/-- A fault as a value. -/
def FaultIs (w : World) (l : List Itm) (e : Ending) (w' : World) : Prop := e = .returned (faultV (listCode l) (listPlace l)) ∧ Gr w w'

theorem fault_cells (w : World) : (w.alloc (.cells #[.int .i64 0, .int .i64 0] 25)).cell? ⟨w.heap.size, 0, none⟩ = some (.int .i64 0) ∧ (w.alloc (.cells #[.int .i64 0, .int .i64 0] 25)).cell? ⟨w.heap.size, 1, none⟩ = some (.int .i64 0) ∧
    (w.alloc (.cells #[.int .i64 0, .int .i64 0] 25)).frozen? ⟨w.heap.size, 0, none⟩ = false ∧ (w.alloc (.cells #[.int .i64 0, .int .i64 0] 25)).frozen? ⟨w.heap.size, 1, none⟩ = false ∧ w.heap.size < (w.alloc (.cells #[.int .i64 0, .int .i64 0] 25)).heap.size := by
  refine ⟨by simp, by simp, by simp, by simp, by simp⟩
/-- The result's two cells, still there in a later world. -/
structure Res2 (w : World) (b : Nat) (x y : Value) : Prop where
  c0 : w.cell? ⟨b, 0, none⟩ = some x
  c1 : w.cell? ⟨b, 1, none⟩ = some y
  f0 : w.frozen? ⟨b, 0, none⟩ = false
  f1 : w.frozen? ⟨b, 1, none⟩ = false
theorem Res2.gr {w w' : World} {b : Nat} {x y : Value} (h : Res2 w b x y) (g : Gr w w') : Res2 w' b x y :=
  ⟨g.cell h.c0, g.cell h.c1, by rw [g.frozen (cell_lt h.c0)]; exact h.f0, by rw [g.frozen (cell_lt h.c1)]; exact h.f1⟩
theorem fault_res (w : World) : Res2 (w.alloc (.cells #[.int .i64 0, .int .i64 0] 25)) w.heap.size (.int .i64 0) (.int .i64 0) :=
  ⟨(fault_cells w).1, (fault_cells w).2.1, (fault_cells w).2.2.1, (fault_cells w).2.2.2.1⟩

theorem rlist_many {l : List Itm} (a : Option Addr) (cap n : Nat) (w : World) (hn : l.length = n) (h : 100 < n) (hm : n ≤ 9223372036854775807) :
    Calls Tryd.prog 11 #[.slice a n cap] w (FaultIs w l) := by
  have HL := Lib.hid (list_many (l := l) (by omega))
  clear hn
  go_enter Tryd.func11, Tryd.ntmps11
  go_wp2_with (go_at_call 8; refine (bare_any _ _).mono ?_; rintro e w1 ⟨rfl, hg1⟩; obtain ⟨s0, s1, s2, s3⟩ := (fault_res w).gr hg1; have HG1 := Lib.hid (((Gr.refl w).alloc _).trans hg1); clear hg1)
  refine bodyPost_ret (v := .agg #[.int .i64 4, .int .i64 (-1)]) (by simp [results, Tryd.results11, go_sem, s0, s1]) rfl ⟨?_, ?_⟩
  · rw [HL.out.1, HL.out.2]; rfl
  · exact (HG1.out.setCell (Nat.le_refl _) _).setCell (Nat.le_refl _) _
theorem rlist_nil (a : Option Addr) (cap : Nat) (w : World) (hf : FineIs w) :
    Calls Tryd.prog 11 #[.slice a 0 cap] w (FaultIs w []) := by
  have h := hf.gr ((Gr.refl w).alloc (.cells #[.int .i64 0, .int .i64 0] 25))
  have f0 := h.1
  have f1 := h.2
  obtain ⟨s0, s1, s2, s3⟩ := fault_res w
  have HL := Lib.hid (list_fine (l := []) (n := 0) rfl (by omega) (fun j hj => absurd hj (by omega)))
  clear h hf
  go_enter Tryd.func11, Tryd.ntmps11
  go_wp2
  refine wp_loop_rounds 1 ?_
  rw [rounds_succ]
  go_wp2
  refine bodyPost_ret (v := .agg #[.int .i64 0, .int .i64 (-1)]) (by simp [results, Tryd.results11, go_sem]) rfl ⟨?_, ?_⟩
  · rw [HL.out.1, HL.out.2]; rfl
  · first
      | exact (Gr.refl w).alloc _
      | exact (((Gr.refl w).alloc _).setCell (Nat.le_refl _) _).setCell (Nat.le_refl _) _

set_option maxRecDepth 100000 in
set_option maxHeartbeats 4000000 in
theorem rlist_slice {l : List Itm} (b off cap n : Nat) (w : World) (hn : l.length = n) (h0 : 0 < n) (h100 : ¬ 100 < n) (hx : Hid (∀ i, i < n → ItemAt w b (off + i * 5) (l.getD i .zero))) (hf : FineIs w) :
    Calls Tryd.prog 11 #[.slice (some ⟨b, off, none⟩) n cap] w (FaultIs w l) := by
  have HF := Lib.hid hf
  have HN := Lib.hid hn
  have H100 := Lib.hid h100
  have hn100 : n ≤ 100 := by omega
  clear hf hn h100
  have HR0 := Lib.hid (fault_res w)
  go_enter Tryd.func11, Tryd.ntmps11
  go_wp2
  go_loopw [12] (fun i wr => ∃ k : Nat, k ≤ n ∧ i = .int .i64 k ∧ Hid (∀ j, j < k → listAt l j = 0) ∧ Hid (Gr (w.alloc (.cells #[.int .i64 0, .int .i64 0] 25)) wr)) (fun i _ => n - (intOf i).toNat)
  case atStart => exact ⟨0, Nat.zero_le _, rfl, fun j hj => absurd hj (by omega), Gr.refl _⟩
  case round =>
    obtain ⟨k, hk, rfl, HZ, HG⟩ := hrel
    have HGW := Lib.hid (((Gr.refl w).alloc (.cells #[.int .i64 0, .int .i64 0] 25)).trans HG.out)
    by_cases hlt : k < n
    · have hcells := hx.out k hlt
      generalize hxk : l.getD k .zero = x at hcells
      obtain ⟨t, len, flow, band, mark⟩ := x
      have HXK := Lib.hid hxk
      clear hxk
      have c0 := HGW.out.cell hcells.c0
      have c1 := HGW.out.cell hcells.c1
      have c2 := HGW.out.cell hcells.c2
      have c3 := HGW.out.cell hcells.c3
      have c4 := HGW.out.cell hcells.c4
      clear hcells
      have i0 : (0 : Int) ≤ (k : Int) := by omega
      have i1 : (k : Int) < (n : Int) := by omega
      have HCI := Lib.hid (fun W => richeck_any ⟨t, len, flow, band, mark⟩ W)
      by_cases hok : (⟨t, len, flow, band, mark⟩ : Itm).ok
      · have HOK := Lib.hid hok
        have HCO := Lib.hid (ckItem_ok hok)
        clear hok
        go_wp2_with (go_at_call 20; refine (HCI.out _).mono ?_; rintro e w1 ⟨rfl, hg1⟩; rw [HCO.out]; have HG1 := Lib.hid ((HG.out.alloc _).trans hg1); have k0 := hg1.cell (show (wr.alloc (.cells #[.int .i64 t, .int .i64 len, .int .i64 flow, .int .i64 band, .int .i64 mark] 42)).cell? ⟨wr.heap.size, 0, none⟩ = some (.int .i64 t) by simp); clear hg1 c0 c1 c2 c3 c4)
        have HGW1 := Lib.hid (((Gr.refl w).alloc (.cells #[.int .i64 0, .int .i64 0] 25)).trans HG1.out)
        rcases Nat.eq_zero_or_pos k with hz | hz
        · subst hz
          have hd : decide ((0 : Int) < 0) = false := rfl
          go_quiet (fail)
          go_wp2
          go_roundw
          case rel => exact ⟨1, by omega, rfl, okTo_succ HZ.out (listAt_ok HXK.out rfl HOK.out (fun hh => absurd hh (by omega))), HG1.out.drewN _⟩
          case measure => simp [intOf]; omega
        · have hcells := hx.out (k - 1) (by omega)
          generalize hyk : l.getD (k - 1) .zero = y at hcells
          obtain ⟨t', len', flow', band', mark'⟩ := y
          have HYK := Lib.hid hyk
          have p0 := HGW1.out.cell hcells.c0
          clear hyk hcells
          have i2 : (0 : Int) < (k : Int) := by omega
          have i3 : (0 : Int) ≤ (k : Int) - 1 := by omega
          have i4 : (k : Int) - 1 < (n : Int) := by omega
          by_cases hord : t < t'
          · go_quiet (fail)
            obtain ⟨s0, s1, s2, s3⟩ := HR0.out.gr (HG1.out.drewN nq)
            go_wp2
            refine bodyPost_ret (v := .agg #[.int .i64 10, .int .i64 k]) (by simp [results, Tryd.results11, go_sem, s0, s1]) rfl ⟨?_, ?_⟩
            · have := list_at HN.out H100.out HZ.out hlt (listAt_order HXK.out HYK.out HOK.out hz hord) (by decide)
              rw [this.1, this.2]; rfl
            · exact ((HGW1.out.drewN nq).setCell (Nat.le_refl _) _).setCell (Nat.le_refl _) _
          · go_quiet (fail)
            go_wp2
            go_roundw
            case rel => exact ⟨k + 1, by omega, by go_num, okTo_succ HZ.out (listAt_ok HXK.out HYK.out HOK.out (fun _ => hord)), HG1.out.drewN _⟩
            case measure => simp [intOf]; omega
      · have HOK := Lib.hid hok
        have HCO := Lib.hid (ckItem_no hok)
        clear hok
        go_wp2_with (go_at_call 20; refine (HCI.out _).mono ?_; rintro e w1 ⟨rfl, hg1⟩; rw [HCO.out]; have HG1 := Lib.hid ((HG.out.alloc _).trans hg1); clear hg1 c0 c1 c2 c3 c4; obtain ⟨s0, s1, s2, s3⟩ := HR0.out.gr HG1.out)
        refine bodyPost_ret (v := .agg #[.int .i64 2, .int .i64 k]) (by simp [results, Tryd.results11, go_sem, s0, s1]) rfl ⟨?_, ?_⟩
        · have := list_at HN.out H100.out HZ.out hlt (listAt_bad HXK.out HOK.out) (by decide)
          rw [this.1, this.2]; rfl
        · exact ((((Gr.refl w).alloc (.cells #[.int .i64 0, .int .i64 0] 25)).trans HG1.out).setCell (Nat.le_refl _) _).setCell (Nat.le_refl _) _
    · obtain rfl : k = n := by omega
      obtain ⟨s0, s1, s2, s3⟩ := HR0.out.gr HG.out
      have h := HF.out.gr HGW.out
      have f0 := h.1
      have f1 := h.2
      clear h
      go_wp2
      refine bodyPost_ret (v := .agg #[.int .i64 0, .int .i64 (-1)]) (by simp [results, Tryd.results11, go_sem, s0, s1]) rfl ⟨?_, ?_⟩
      · have := list_fine HN.out H100.out HZ.out
        rw [this.1, this.2]; rfl
      · exact (HGW.out.setCell (Nat.le_refl _) _).setCell (Nat.le_refl _) _
/-- millraceref.ListCheck. -/
theorem rlist_any {v : Value} {l : List Itm} (w : World) (hx : Items w v l) (hf : FineIs w) : Calls Tryd.prog 11 #[v] w (FaultIs w l) := by
  by_cases h : 100 < l.length
  · have hm := hx.len
    obtain ⟨a, cap, rfl⟩ := items_shape hx
    exact rlist_many a cap _ w rfl h hm
  · rcases Nat.eq_zero_or_pos l.length with h0 | h0
    · obtain ⟨a, cap, rfl⟩ := items_shape hx
      obtain rfl := List.length_eq_zero_iff.1 h0
      exact rlist_nil a cap w hf
    · obtain ⟨b, off, cap, rfl, _, _, CX⟩ := items_cells hx h0
      exact rlist_slice b off cap _ w rfl h0 h CX hf
end Go.Proofs.YtofhmbbodoedjaaDoor

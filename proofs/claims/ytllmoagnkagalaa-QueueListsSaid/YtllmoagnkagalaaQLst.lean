/-
  millracelaw.QueueLists at every input.
-/
import Derived.Test.YtllmoagnkagalaaLstA
import Derived.Test.YtllmoagnkagalaaItems
import Derived.StillTailTactics
import Derived.BigGuardPart
import Derived.Deep.DeepCutAuto
import Derived.Deep.CutBlock
import Derived.BigRegion
import Derived.Deep.LoopGhost
namespace Go.Proofs.Ytllmoagnkagalaa
open Go.RowKit Go.Extern.Stop Go.Stop Go.Extern

/-- Each has a length that may be. -/
def Lens (xs : List Hel) : Prop := ∀ x ∈ xs, 0 ≤ x.len ∧ x.len ≤ 10000
theorem Lens.sum {xs : List Hel} (h : Lens xs) (hn : xs.length ≤ 1000) : 0 ≤ sumLen xs ∧ sumLen xs ≤ 1000000000000000 := by
  suffices ∀ xs : List Hel, Lens xs → 0 ≤ sumLen xs ∧ sumLen xs ≤ 10000 * xs.length by have := this xs h; omega
  intro xs
  induction xs with
  | nil => intro _; simp [sumLen]
  | cons x xs ih =>
    intro h
    have h1 := ih (fun y hy => h y (by simp [hy]))
    have h2 := h x (by simp)
    simp only [sumLen, List.length_cons]
    omega

/-- The law's two lists. -/
structure QL (w wr : World) (v u : Value) (xs : List Hel) (k : Nat) : Prop where
  gr : Gr w wr
  lst : LstAt wr w.heap.size 0 v xs
  row : RowH 32 wr u xs
  ownv : ∀ g, v.ownBlock = some g → w.heap.size < g
  ownu : ∀ g, u.ownBlock = some g → w.heap.size < g
  apart : ∀ g, v.ownBlock = some g → u.ownBlock ≠ some g
  lens : Lens xs
  len : xs.length ≤ k
theorem QL.grow {w wr w' : World} {v u : Value} {xs : List Hel} {k : Nat} (h : QL w wr v u xs k) (g : Gr wr w') : QL w w' v u xs k :=
  ⟨h.gr.trans g, h.lst.gr g, h.row.gr g, h.ownv, h.ownu, h.apart, h.lens, h.len⟩

theorem held_neq (X : Hel) (W : World) : (binOp .neq 32 X.val X.val).run Try.prog W = .ok (.bool false) W := by
  unfold Hel.val
  simp [go_sem]
/-- In the midst of a round: q and on are the round's own blocks. -/
structure QM (w : World) (q : Nat) (wm : World) (v u : Value) (ys zs : List Hel) (X W : Hel) : Prop where
  gr : Gr w wm
  lst : LstAt wm w.heap.size 0 v ys
  row : RowH 32 wm u zs
  ownv : ∀ g, v.ownBlock = some g → w.heap.size < g ∧ (g < q ∨ q + 3 ≤ g)
  ownu : ∀ g, u.ownBlock = some g → w.heap.size < g ∧ (g < q ∨ q + 3 ≤ g)
  apart : ∀ g, v.ownBlock = some g → u.ownBlock ≠ some g
  sz : q + 3 ≤ wm.heap.size
  pq : w.heap.size < q
  hx : HelRes wm (q + 1) X
  hw : HelRes wm (q + 1 + 1) W
section
variable {w wm w' : World} {q : Nat} {v u v' u' : Value} {ys zs ys' zs' : List Hel} {X W : Hel}
theorem QM.grow (h : QM w q wm v u ys zs X W) (g : Gr wm w') : QM w q w' v u ys zs X W :=
  ⟨h.gr.trans g, h.lst.gr g, h.row.gr g, h.ownv, h.ownu, h.apart, Nat.le_trans h.sz g.size, h.pq, h.hx.gr g, h.hw.gr g⟩
theorem QM.list (h : QM w q wm v u ys zs X W) (hl : LstAt w' w.heap.size 0 v' ys') (hs : LSav w.heap.size 0 v wm w') (ho : ∀ g, v'.ownBlock = some g → v.ownBlock = some g ∨ wm.heap.size ≤ g) : QM w q w' v' u ys' zs X W := by
  have hn : ∀ r, w.heap.size < r → (∀ g, v.ownBlock = some g → g ≠ r) → ¬ LFoot w.heap.size v r := fun r h1 h2 h3 => by
    rcases h3 with h3 | h3
    · omega
    · exact h2 r h3 rfl
  have hp := h.pq
  refine ⟨hs.sav.gr h.gr (fun r hr => ?_), hl, h.row.sav hs.sav (fun g hg => hn g (h.ownu g hg).1 (fun k hk e => h.apart k hk (e ▸ hg))), fun g hg => ?_, h.ownu, fun g hg e => ?_, Nat.le_trans h.sz hs.sav.size, h.pq, h.hx.sav hs.sav (hn _ (by omega) fun g hg e => by have := h.ownv g hg; omega), h.hw.sav hs.sav (hn _ (by omega) fun g hg e => by have := h.ownv g hg; omega)⟩
  · rcases hr with hr | hr
    · omega
    · exact Nat.le_of_lt (h.ownv r hr).1
  · rcases ho g hg with h1 | h1
    · exact h.ownv g h1
    · have := h.sz; omega
  · rcases ho g hg with h1 | h1
    · exact h.apart g h1 e
    · have := h.row.lt e; omega
theorem QM.rowed (h : QM w q wm v u ys zs X W) (hr : RowH 32 w' u' zs') (hs : wm.grownBy w' u.ownBlock) (ho : ∀ g, u'.ownBlock = some g → u.ownBlock = some g ∨ wm.heap.size ≤ g) : QM w q w' v u' ys zs' X W := by
  have hs : Sav (fun g => u.ownBlock = some g) wm w' := .of_grown hs fun _ h => h
  have hp := h.pq
  refine ⟨hs.gr h.gr (fun r hr => Nat.le_of_lt (h.ownu r hr).1), h.lst.sav hs (fun e => by have := h.ownu _ e; omega) (fun g hg e => h.apart g hg e), hr, h.ownv, fun g hg => ?_, fun g hg e => ?_, Nat.le_trans h.sz hs.size, h.pq, h.hx.sav hs (fun e => by have := h.ownu _ e; omega), h.hw.sav hs (fun e => by have := h.ownu _ e; omega)⟩
  · rcases ho g hg with h1 | h1
    · exact h.ownu g h1
    · have := h.sz; omega
  · rcases ho g e with h1 | h1
    · exact h.apart g hg h1
    · have := h.lst.row.lt hg; omega
theorem QM.tail {x : Hel} {b off cap : Nat} (h : QM w q wm v (.slice (some ⟨b, off, none⟩) (zs.length + 1) cap) ys (x :: zs) X W) : QM w q wm v (.slice (some ⟨b, off + 6, none⟩) zs.length (cap - 1)) ys zs X W := by
  exact ⟨h.gr, h.lst, RowH.tail (by simpa using h.row), h.ownv, fun g hg => h.ownu g (by simpa [Value.ownBlock] using hg), fun g hg e => h.apart g hg (by simpa [Value.ownBlock] using e), h.sz, h.pq, h.hx, h.hw⟩
theorem QM.tail1 {x : Hel} {b off cap : Nat} (h : QM w q wm v (.slice (some ⟨b, off, none⟩) (zs.length + 1) cap) ys (x :: zs) X W) : ∃ t, (if cap = 1 then some (⟨b, off, none⟩ : Addr) else some (⟨b, off + 6, none⟩ : Addr)) = some ⟨b, t, none⟩ ∧ QM w q wm v (.slice (some ⟨b, t, none⟩) zs.length (cap - 1)) ys zs X W := by
  have h1 : zs.length + 1 ≤ cap := by
    obtain ⟨a1, c1, e, h1, _, h3⟩ := h.row.any
    injection e with e1 e2 e3
    simp at h1
    omega
  by_cases hc : cap = 1
  · refine ⟨off, by rw [if_pos hc], ?_⟩
    subst hc
    obtain rfl : zs = [] := List.eq_nil_of_length_eq_zero (by omega)
    have hrow : RowH 32 wm (.slice (some ⟨b, off, none⟩) ([] : List Hel).length (1 - 1)) [] := by
      refine ⟨rfl, .inr ?_⟩
      rcases h.row.2 with h | ⟨g, o, c, cur, h1, h2, h3, h4, h5, h6, h7⟩
      · cases h.1
      · cases h1
        exact ⟨b, off, 0, cur, rfl, h2, Nat.le_refl _, by decide, by omega, h6, fun j hj => by simp at hj⟩
    exact ⟨h.gr, h.lst, hrow, h.ownv, fun g hg => h.ownu g (by simpa [Value.ownBlock] using hg), fun g hg e => h.apart g hg (by simpa [Value.ownBlock] using e), h.sz, h.pq, h.hx, h.hw⟩
  · exact ⟨off + 6, by rw [if_neg hc], h.tail⟩
theorem QM.init {x : Hel} {b off cap : Nat} (h : QM w q wm v (.slice (some ⟨b, off, none⟩) (zs.length + 1) cap) ys (zs ++ [x]) X W) : QM w q wm v (.slice (some ⟨b, off, none⟩) zs.length cap) ys zs X W := by
  obtain ⟨a1, c1, e, h1, _, h3⟩ := h.row.any
  injection e with e1 e2 e3
  exact ⟨h.gr, h.lst, RowH.init (x := x) (by simpa using h.row) (by simp at h1; omega) (Nat.le_refl _), h.ownv, fun g hg => h.ownu g (by simpa [Value.ownBlock] using hg), fun g hg e => h.apart g hg (by simpa [Value.ownBlock] using e), h.sz, h.pq, h.hx, h.hw⟩
theorem QM.setx (h : QM w q wm v u ys zs X W) (x : Hel) : QM w q ((((((wm.setCell ⟨(q + 1), 0, none⟩ (.int .i64 x.t)).setCell ⟨(q + 1), 1, none⟩ (.int .i64 x.len)).setCell ⟨(q + 1), 2, none⟩ (.int .i64 x.flow)).setCell ⟨(q + 1), 3, none⟩ (.int .i64 x.band)).setCell ⟨(q + 1), 4, none⟩ (.int .i64 x.mark)).setCell ⟨(q + 1), 5, none⟩ (.int .i64 x.n)) v u ys zs x W := by
  obtain ⟨h1, h2⟩ := hel_set6 h.hx x
  have hp := h.pq
  exact ⟨h2.gr h.gr (fun r e => by omega), h.lst.sav h2 (by omega) (fun g hg e => by have := h.ownv g hg; omega), h.row.sav h2 (fun g hg e => by have := h.ownu g hg; omega), h.ownv, h.ownu, h.apart, Nat.le_trans h.sz h2.size, h.pq, h1, h.hw.sav h2 (by omega)⟩
theorem QM.setw (h : QM w q wm v u ys zs X W) (x : Hel) : QM w q ((((((wm.setCell ⟨(q + 1 + 1), 0, none⟩ (.int .i64 x.t)).setCell ⟨(q + 1 + 1), 1, none⟩ (.int .i64 x.len)).setCell ⟨(q + 1 + 1), 2, none⟩ (.int .i64 x.flow)).setCell ⟨(q + 1 + 1), 3, none⟩ (.int .i64 x.band)).setCell ⟨(q + 1 + 1), 4, none⟩ (.int .i64 x.mark)).setCell ⟨(q + 1 + 1), 5, none⟩ (.int .i64 x.n)) v u ys zs X x := by
  obtain ⟨h1, h2⟩ := hel_set6 h.hw x
  have hp := h.pq
  exact ⟨h2.gr h.gr (fun r e => by omega), h.lst.sav h2 (by omega) (fun g hg e => by have := h.ownv g hg; omega), h.row.sav h2 (fun g hg e => by have := h.ownu g hg; omega), h.ownv, h.ownu, h.apart, Nat.le_trans h.sz h2.size, h.pq, h.hx.sav h2 (by omega), h1⟩
theorem QM.start {k : Nat} {T : TypeId} {cs : Array Value} (h : QL w wm v u ys k) : QM w wm.heap.size (((wm.alloc (.cells cs T)).alloc (.cells #[.int .i64 0, .int .i64 0, .int .i64 0, .int .i64 0, .int .i64 0, .int .i64 0] 32)).alloc (.cells #[.int .i64 0, .int .i64 0, .int .i64 0, .int .i64 0, .int .i64 0, .int .i64 0] 32)) v u ys ys .zero .zero := by
  have hg : Gr wm (((wm.alloc (.cells cs T)).alloc (.cells #[.int .i64 0, .int .i64 0, .int .i64 0, .int .i64 0, .int .i64 0, .int .i64 0] 32)).alloc (.cells #[.int .i64 0, .int .i64 0, .int .i64 0, .int .i64 0, .int .i64 0, .int .i64 0] 32)) := (((Gr.refl _).alloc _).alloc _).alloc _
  exact ⟨h.gr.trans hg, h.lst.gr hg, h.row.gr hg, fun g e => ⟨h.ownv g e, .inl (h.lst.row.lt e)⟩, fun g e => ⟨h.ownu g e, .inl (h.row.lt e)⟩, h.apart, by simp, h.lst.lt, (helRes_new _ .zero (by simp)).gr ((Gr.refl _).alloc _), helRes_new _ .zero (by simp)⟩
end
set_option maxRecDepth 100000 in
set_option maxHeartbeats 40000000 in
theorem queueLists_ok {A : Nat → Nat → Int} (a : Option Addr) (cap n : Nat) (w : World) (hn : n ≤ 100)
    (hA : Hid (0 < n → ∃ b off, a = some ⟨b, off, none⟩ ∧ ∀ i, i < n → ∀ j, j < 2 → w.cell? ⟨b, off + i * 2 + j, none⟩ = some (.int .i64 (A i j)))) :
    Calls Try.prog 3 #[.slice a n cap] w fun e w' => e = .returned (.bool true) ∧ Gr w w' := by
  have hn1 : (n : Int) ≤ 100 := by omega
  go_enter Try.func3, Try.ntmps3
  go_wp2
  go_loopg [4, 5] n (fun q s4 i wr => ∃ (k : Nat) (v : Value) (xs : List Hel), k ≤ n ∧ i = .int .i64 k ∧ q = n - k ∧ Hid (QL w wr v s4 xs k))
  case atStart =>
    refine ⟨0, .slice none 0 0, [], Nat.zero_le _, rfl, rfl, ⟨(Gr.refl w).alloc _, ⟨by simp, by simp [sumLen], by simp, by simp, RowH.nil _ _⟩, RowH.nil _ _, fun g hg => (by cases hg), fun g hg => (by cases hg), fun g hg => (by cases hg), fun x hx => (by cases hx), by simp⟩⟩
  case round =>
    obtain ⟨k, v, xs, hk, rfl, rfl, HQ⟩ := hrel
    obtain ⟨ua, uc, rfl, hu1, hu2, hu3⟩ := HQ.out.row.any
    by_cases hlt : k < n
    · have i0 : (0 : Int) ≤ (k : Int) := by omega
      have i1 : (k : Int) < (n : Int) := by omega
      obtain ⟨b, off, rfl, hA2⟩ := hA.out (by omega)
      have d0 := HQ.out.gr.cell (hA2 k hlt 0 (by omega))
      have d1 := HQ.out.gr.cell (hA2 k hlt 1 (by omega))
      rw [Nat.add_zero] at d0
      clear hA2
      generalize A k 0 = what at d0
      generalize A k 1 = m1 at d1
      obtain ⟨L, hL, hL1, hL2⟩ : ∃ L, wrap64 (1 + wrap64 ((IntKind.u64.wrap m1).tmod 10000)) = L ∧ 1 ≤ L ∧ L ≤ 10000 := by
        refine ⟨_, rfl, ?_⟩
        have h0 : 0 ≤ IntKind.u64.wrap m1 := by rw [IntKind.wrap_u64]; omega
        have h1 := Int.emod_nonneg (IntKind.u64.wrap m1) (show (10000 : Int) ≠ 0 by omega)
        have h2 := Int.emod_lt_of_pos (IntKind.u64.wrap m1) (show (0 : Int) < 10000 by omega)
        rw [Int.tmod_eq_emod_of_nonneg h0]
        unfold wrap64
        omega
      go_upto_block 2 with fail
      obtain ⟨w3, hw3⟩ : ∃ w3, w3 = (((wr.alloc (.cells #[.int .i64 what, .int .i64 L] 27)).alloc (.cells #[.int .i64 0, .int .i64 0, .int .i64 0, .int .i64 0, .int .i64 0, .int .i64 0] 32)).alloc (.cells #[.int .i64 0, .int .i64 0, .int .i64 0, .int .i64 0, .int .i64 0, .int .i64 0] 32)) := ⟨_, rfl⟩
      have m0 : w3.cell? ⟨wr.heap.size, 0, none⟩ = some (.int .i64 what) := by rw [hw3]; exact (((Gr.refl _).alloc _).alloc _).cell (show (wr.alloc (.cells #[.int .i64 what, .int .i64 L] 27)).cell? ⟨wr.heap.size, 0, none⟩ = _ by simp)
      have m2 : w3.cell? ⟨wr.heap.size, 1, none⟩ = some (.int .i64 L) := by rw [hw3]; exact (((Gr.refl _).alloc _).alloc _).cell (show (wr.alloc (.cells #[.int .i64 what, .int .i64 L] 27)).cell? ⟨wr.heap.size, 1, none⟩ = _ by simp)
      have HM : Hid (QM w wr.heap.size w3 v (.slice ua xs.length uc) xs xs .zero .zero) := Lib.hid (by rw [hw3]; exact QM.start HQ.out)
      rw [← hw3]
      have HQK := Lib.hid (show Lens xs ∧ xs.length ≤ k from ⟨HQ.out.lens, HQ.out.len⟩)
      have HVO := Lib.hid (fun g (hg : v.ownBlock = some g) => HQ.out.lst.row.lt hg)
      clear hw3 hL d0 d1 HQ hu3
      go_cut [4, 8, 10] (fun s4 s8 s10 wx => ∃ (v' : Value) (ys : List Hel) (X : Hel) (fine : Bool), s8 = .bool fine ∧ s10 = .bool fine ∧ Hid (QM w wr.heap.size wx v' s4 ys ys X X ∧ Lens ys ∧ ys.length ≤ k + 1))
      case first =>
        have HSO := Lib.hid (HQK.out.1.sum (by have := HQK.out.2; omega))
        by_cases hw0 : what = 0
        · subst hw0
          have HADD : Hid (∀ u W', QM w wr.heap.size W' v u xs xs .zero .zero → ∀ r, wr.heap.size + 3 ≤ r → HelAt W' r 0 (⟨0, L, 0, 0, 0, (k : Int)⟩ : Hel) → Calls Try.prog 4 #[.pointer (some ⟨w.heap.size, 0, none⟩), .agg #[.int .i64 0, .int .i64 L, .int .i64 0, .int .i64 0, .int .i64 0, .int .i64 (k : Int)]] W' fun e w' => e = .returned (.tuple #[]) ∧ (∃ v', QM w wr.heap.size w' v' u (xs ++ [(⟨0, L, 0, 0, 0, (k : Int)⟩ : Hel)]) xs .zero .zero) ∧ HelAt w' r 0 (⟨0, L, 0, 0, 0, (k : Int)⟩ : Hel)) := fun u W' hq r hr ha => by
            refine (ladd_any w.heap.size 0 v xs (⟨0, L, 0, 0, 0, (k : Int)⟩ : Hel) W' hq.lst (by have := HQK.out.2; omega) HSO.out ⟨by show 0 ≤ L; omega, by show L ≤ 1000000000; omega⟩).mono ?_
            rintro e w' ⟨rfl, v', h1, h2, h3⟩
            exact ⟨rfl, ⟨v', hq.list h1 h2 h3⟩, ha.sav h2.sav (fun e => by
              have := hq.pq
              rcases e with e | e
              · omega
              · have := HVO.out r e; omega)⟩
          have HH := Lib.hid (held_new w3 (⟨0, L, 0, 0, 0, (k : Int)⟩ : Hel) rfl (T := 32))
          have HS := Lib.hid HM.out.sz
          obtain ⟨i0', hi0, hz0, hz1, hz2⟩ := info_parts heldInfo
          go_wp2_with (first
            | (go_at_call 4; refine (HADD.out _ _ (HM.out.grow ((Gr.refl _).alloc _)) w3.heap.size HS.out HH.out).mono ?_; rintro e w1 ⟨rfl, ⟨v1, hm1⟩, ⟨f0, f1, f2, f3, f4, f5⟩⟩; have HM1 := Lib.hid hm1; clear hm1; simp only at f0 f1 f2 f3 f4 f5; have fl := cell_lt f0)
            | (at_builtin; refine wpList_append_rowH rfl _ _ _ (by rfl) i0' Hel.zero.val Try.underlying23 hi0 hz0 hz1 hz2 rfl ?c1 (by rfl) (HM1.out.grow ((Gr.refl _).alloc _)).row ⟨w1.heap.size, 0, none⟩ 1 [(⟨0, L, 0, 0, 0, (k : Int)⟩ : Hel)] (by rfl) (by simp) ?c3 ?c2 ?_; (case c1 => (intro u hu; exact (cells_int Hel.zero u (by simpa [Hel.val, Value.cells, Hel.cells] using hu)).2)); (case c3 => (rw [flat_one]; exact (held_new w1 (⟨0, L, 0, 0, 0, (k : Int)⟩ : Hel) rfl).news)); (case c2 => (have := HQK.out.2; simp; omega)); intro v' w' hrow hgr hown hold; have HM2 := Lib.hid ((HM1.out.grow ((Gr.refl _).alloc _)).rowed hrow hgr hown); obtain ⟨r1, r2, rfl⟩ := hrow.shape; clear hrow hgr hown hold))
          go_meet
          exact ⟨v1, xs ++ [(⟨0, L, 0, 0, 0, (k : Int)⟩ : Hel)], .zero, false, rfl, rfl, by simpa using HM2.out, fun y hy => by
            rcases List.mem_append.1 hy with hy | hy
            · exact HQK.out.1 y hy
            · rw [List.mem_singleton.1 hy]; exact ⟨by show 0 ≤ L; omega, by show L ≤ 10000; omega⟩, by have := HQK.out.2; simp; omega⟩
        · by_cases hw1 : what = 1
          · subst hw1
            cases xs with
            | nil =>
              have HC : Hid (Calls Try.prog 5 #[.pointer (some ⟨w.heap.size, 0, none⟩)] w3 fun e w' => e = .returned (.tuple #[Hel.zero.val, .bool false]) ∧ QM w wr.heap.size w' v (.slice ua 0 uc) [] [] .zero .zero) := Lib.hid (by
                refine (lnext_nil w.heap.size 0 v w3 HM.out.lst).mono ?_
                rintro e w' ⟨rfl, hg⟩
                exact ⟨rfl, HM.out.grow hg⟩)
              unfold Hel.val Hel.zero at HC
              rw [show ([] : List Hel).length = 0 from rfl] at *
              go_wp2_with (go_at_call 5; refine HC.out.mono ?_; rintro e w1 ⟨rfl, hm1⟩; obtain ⟨⟨a0, a1, a2, a3, a4, a5⟩, b0, b1, b2, b3, b4, b5⟩ := hm1.hx; have al := cell_lt a0; obtain ⟨⟨e0, e1, e2, e3, e4, e5⟩, g0, g1, g2, g3, g4, g5⟩ := hm1.hw; have el := cell_lt e0; have HM1 := Lib.hid hm1; clear hm1; simp only [] at a0 a1 a2 a3 a4 a5 e0 e1 e2 e3 e4 e5)
              go_meet
              exact ⟨v, [], .zero, false, rfl, rfl, HM1.out.setx .zero, fun y hy => (by cases hy), by simp⟩
            | cons x xs =>
              have HSX : Hid (0 ≤ sumLen xs ∧ sumLen xs ≤ 1000000000000000) := Lib.hid ((show Lens xs from fun y hy => HQK.out.1 y (by simp [hy])).sum (by have := HQK.out.2; simp at this; omega))
              have HC : Hid (Calls Try.prog 5 #[.pointer (some ⟨w.heap.size, 0, none⟩)] w3 fun e w' => e = .returned (.tuple #[x.val, .bool true]) ∧ ∃ v', QM w wr.heap.size w' v' (.slice ua (xs.length + 1) uc) xs (x :: xs) .zero .zero) := Lib.hid (by
                have hq := HM.out
                rw [show ((x :: xs)).length = xs.length + 1 from by simp] at hq
                refine (lnext_cons w.heap.size 0 v x xs w3 hq.lst HSX.out).mono ?_
                rintro e w' ⟨rfl, v', h1, h2, h3⟩
                exact ⟨rfl, v', hq.list h1 h2 (fun g hg => .inl (by rw [← h3]; exact hg))⟩)
              obtain ⟨ub, uo, hua, HEL⟩ : ∃ ub uo, ua = some ⟨ub, uo, none⟩ ∧ Hid (∀ W v' ys X Y, QM w wr.heap.size W v' (.slice (some ⟨ub, uo, none⟩) (xs.length + 1) uc) ys (x :: xs) X Y → HelAt W ub (uo + 0 * 6) x) := by
                obtain ⟨a1, c1, e, _, _, h3⟩ := HM.out.row.any
                obtain ⟨ub, uo, e2, _⟩ := h3.out (by simp)
                injection e with e1
                refine ⟨ub, uo, by rw [e1, e2], Lib.hid ?_⟩
                intro W v' ys X Y hq
                obtain ⟨a1, c1, e, _, _, h3⟩ := hq.row.any
                obtain ⟨ub2, uo2, e2, h4⟩ := h3.out (by simp)
                injection e with e1
                rw [e2] at e1
                cases e1
                have := h4 0 (by simp)
                rwa [show ((x :: xs)).getD 0 .zero = x from by simp [List.getD_eq_getElem?_getD]] at this
              subst hua
              have hu1' : ((xs.length + 1 : Nat) : Int) ≤ (uc : Int) := by simp at hu1; omega
              have hu1'' : xs.length + 1 ≤ uc := by simpa using hu1
              rw [show ((x :: xs)).length = xs.length + 1 from by simp]
              have hu4' : 1 ≤ uc := by omega
              have hu6' : (1 : Int) ≤ (xs.length : Int) + 1 := by omega
              have hu5' : (xs.length : Int) + 1 ≤ (uc : Int) := by omega
              clear hu1
              unfold Hel.val at HC
              have i2 : ¬ ((xs.length + 1 : Nat) : Int) = 0 := by omega
              have i4 : (0 : Int) < ((xs.length + 1 : Nat) : Int) := by omega
              have i3 : (0 : Int) ≤ (xs.length : Int) := by omega
              unfold maxLen at hu2
              go_wp2_with (go_at_call 5; refine HC.out.mono ?_; rintro e w1 ⟨rfl, v1, hm1⟩; obtain ⟨⟨a0, a1, a2, a3, a4, a5⟩, b0, b1, b2, b3, b4, b5⟩ := hm1.hx; have al := cell_lt a0; have HM1 := Lib.hid hm1; clear hm1; simp only [Hel.zero] at a0 a1 a2 a3 a4 a5)
              obtain ⟨w2, hw2⟩ : ∃ w2, w2 = ((((((w1.setCell ⟨wr.heap.size + 1, 0, none⟩ (.int .i64 x.t)).setCell ⟨wr.heap.size + 1, 1, none⟩ (.int .i64 x.len)).setCell ⟨wr.heap.size + 1, 2, none⟩ (.int .i64 x.flow)).setCell ⟨wr.heap.size + 1, 3, none⟩ (.int .i64 x.band)).setCell ⟨wr.heap.size + 1, 4, none⟩ (.int .i64 x.mark)).setCell ⟨wr.heap.size + 1, 5, none⟩ (.int .i64 x.n)) := ⟨_, rfl⟩
              have hm2 := HM1.out.setx x
              rw [← hw2] at hm2 ⊢
              clear hw2 a0 a1 a2 a3 a4 a5 b0 b1 b2 b3 b4 b5 al
              obtain ⟨y0, y1, y2, y3, y4, y5⟩ := HEL.out _ _ _ _ _ hm2
              simp only [Nat.zero_mul, Nat.add_zero] at y0 y1 y2 y3 y4 y5
              obtain ⟨t, ht, ht2⟩ := hm2.tail1
              have HT := Lib.hid ht2
              clear ht2
              have yl := cell_lt y0
              obtain ⟨⟨e0, e1, e2, e3, e4, e5⟩, g0, g1, g2, g3, g4, g5⟩ := hm2.hw
              have el := cell_lt e0
              have HM2 := Lib.hid hm2
              clear hm2
              simp only [Hel.zero] at e0 e1 e2 e3 e4 e5
              go_region
              go_wp2

              go_meet
              exact ⟨v1, xs, x, true, rfl, rfl, ((HT.out.setw x).grow (Gr.refl _).drew), fun y hy => HQK.out.1 y (by simp [hy]), by have := HQK.out.2; simp at this; omega⟩
          · by_cases hw2 : what = 2
            · subst hw2
              rcases List.eq_nil_or_concat xs with hx | ⟨ys, x, hx⟩
              · subst hx
                have HC : Hid (Calls Try.prog 6 #[.pointer (some ⟨w.heap.size, 0, none⟩)] w3 fun e w' => e = .returned (.tuple #[Hel.zero.val, .bool false]) ∧ QM w wr.heap.size w' v (.slice ua 0 uc) [] [] .zero .zero) := Lib.hid (by
                  refine (llast_nil w.heap.size 0 v w3 HM.out.lst).mono ?_
                  rintro e w' ⟨rfl, hg⟩
                  exact ⟨rfl, HM.out.grow hg⟩)
                unfold Hel.val Hel.zero at HC
                rw [show ([] : List Hel).length = 0 from rfl] at *
                go_wp2_with (go_at_call 6; refine HC.out.mono ?_; rintro e w1 ⟨rfl, hm1⟩; obtain ⟨⟨a0, a1, a2, a3, a4, a5⟩, b0, b1, b2, b3, b4, b5⟩ := hm1.hx; have al := cell_lt a0; obtain ⟨⟨e0, e1, e2, e3, e4, e5⟩, g0, g1, g2, g3, g4, g5⟩ := hm1.hw; have el := cell_lt e0; have HM1 := Lib.hid hm1; clear hm1; simp only [] at a0 a1 a2 a3 a4 a5 e0 e1 e2 e3 e4 e5)
                go_meet
                exact ⟨v, [], .zero, false, rfl, rfl, HM1.out.setx .zero, fun y hy => (by cases hy), by simp⟩
              · rw [List.concat_eq_append] at hx
                subst hx
                have HSX : Hid (0 ≤ sumLen ys ∧ sumLen ys ≤ 1000000000000000) := Lib.hid ((show Lens ys from fun y hy => HQK.out.1 y (by simp [hy])).sum (by have := HQK.out.2; simp at this; omega))
                have HC : Hid (Calls Try.prog 6 #[.pointer (some ⟨w.heap.size, 0, none⟩)] w3 fun e w' => e = .returned (.tuple #[x.val, .bool true]) ∧ ∃ v', QM w wr.heap.size w' v' (.slice ua (ys.length + 1) uc) ys (ys ++ [x]) .zero .zero) := Lib.hid (by
                  have hq := HM.out
                  rw [show ((ys ++ [x])).length = ys.length + 1 from by simp] at hq
                  refine (llast_snoc w.heap.size 0 v x ys w3 hq.lst HSX.out).mono ?_
                  rintro e w' ⟨rfl, v', h1, h2, h3⟩
                  exact ⟨rfl, v', hq.list h1 h2 (fun g hg => .inl (by rw [← h3]; exact hg))⟩)
                obtain ⟨ub, uo, hua, HEL⟩ : ∃ ub uo, ua = some ⟨ub, uo, none⟩ ∧ Hid (∀ W v' ys X Y, QM w wr.heap.size W v' (.slice (some ⟨ub, uo, none⟩) (ys.length + 1) uc) ys (ys ++ [x]) X Y → HelAt W ub (uo + ys.length * 6) x) := by
                  obtain ⟨a1, c1, e, _, _, h3⟩ := HM.out.row.any
                  obtain ⟨ub, uo, e2, _⟩ := h3.out (by simp)
                  injection e with e1
                  refine ⟨ub, uo, by rw [e1, e2], Lib.hid ?_⟩
                  intro W v' ys X Y hq
                  obtain ⟨a1, c1, e, _, _, h3⟩ := hq.row.any
                  obtain ⟨ub2, uo2, e2, h4⟩ := h3.out (by simp)
                  injection e with e1
                  rw [e2] at e1
                  cases e1
                  have := h4 ys.length (by simp)
                  rwa [show ((ys ++ [x])).getD ys.length .zero = x from by simp [List.getD_eq_getElem?_getD]] at this
                subst hua
                have hu1' : ((ys.length + 1 : Nat) : Int) ≤ (uc : Int) := by simp at hu1; omega
                have hu1'' : ys.length + 1 ≤ uc := by simpa using hu1
                rw [show ((ys ++ [x])).length = ys.length + 1 from by simp]
                have hu4' : 1 ≤ uc := by omega
                have hu6' : (1 : Int) ≤ (ys.length : Int) + 1 := by omega
                have hu5' : (ys.length : Int) + 1 ≤ (uc : Int) := by omega
                clear hu1
                unfold Hel.val at HC
                have i2 : ¬ ((ys.length + 1 : Nat) : Int) = 0 := by omega
                have i4 : (0 : Int) < ((ys.length + 1 : Nat) : Int) := by omega
                have i3 : (0 : Int) ≤ (ys.length : Int) := by omega
                unfold maxLen at hu2
                go_wp2_with (go_at_call 6; refine HC.out.mono ?_; rintro e w1 ⟨rfl, v1, hm1⟩; obtain ⟨⟨a0, a1, a2, a3, a4, a5⟩, b0, b1, b2, b3, b4, b5⟩ := hm1.hx; have al := cell_lt a0; have HM1 := Lib.hid hm1; clear hm1; simp only [Hel.zero] at a0 a1 a2 a3 a4 a5)
                obtain ⟨w2, hw2⟩ : ∃ w2, w2 = ((((((w1.setCell ⟨wr.heap.size + 1, 0, none⟩ (.int .i64 x.t)).setCell ⟨wr.heap.size + 1, 1, none⟩ (.int .i64 x.len)).setCell ⟨wr.heap.size + 1, 2, none⟩ (.int .i64 x.flow)).setCell ⟨wr.heap.size + 1, 3, none⟩ (.int .i64 x.band)).setCell ⟨wr.heap.size + 1, 4, none⟩ (.int .i64 x.mark)).setCell ⟨wr.heap.size + 1, 5, none⟩ (.int .i64 x.n)) := ⟨_, rfl⟩
                have hm2 := HM1.out.setx x
                rw [← hw2] at hm2 ⊢
                clear hw2 a0 a1 a2 a3 a4 a5 b0 b1 b2 b3 b4 b5 al
                obtain ⟨y0, y1, y2, y3, y4, y5⟩ := HEL.out _ _ _ _ _ hm2

                have yl := cell_lt y0
                obtain ⟨⟨e0, e1, e2, e3, e4, e5⟩, g0, g1, g2, g3, g4, g5⟩ := hm2.hw
                have el := cell_lt e0
                have HM2 := Lib.hid hm2
                clear hm2
                simp only [Hel.zero] at e0 e1 e2 e3 e4 e5
                go_region
                go_wp2

                go_meet
                exact ⟨v1, ys, x, true, rfl, rfl, ((HM2.out.init.setw x).grow (Gr.refl _).drew), fun y hy => HQK.out.1 y (by simp [hy]), by have := HQK.out.2; simp at this; omega⟩
            · have hb0 : (what == 0) = false := by simp [hw0]
              have hb1 : (what == 1) = false := by simp [hw1]
              have hb2 : (what == 2) = false := by simp [hw2]
              cases xs with
              | nil =>
                have HC : Hid (Calls Try.prog 7 #[.pointer (some ⟨w.heap.size, 0, none⟩)] w3 fun e w' => e = .returned (.tuple #[Hel.zero.val, .bool false]) ∧ QM w wr.heap.size w' v (.slice ua 0 uc) [] [] .zero .zero) := Lib.hid (by
                  refine (lfirst_nil w.heap.size 0 v w3 HM.out.lst).mono ?_
                  rintro e w' ⟨rfl, hg⟩
                  exact ⟨rfl, HM.out.grow hg⟩)
                unfold Hel.val Hel.zero at HC
                rw [show ([] : List Hel).length = 0 from rfl] at *
                go_wp2_with (go_at_call 7; refine HC.out.mono ?_; rintro e w1 ⟨rfl, hm1⟩; obtain ⟨⟨a0, a1, a2, a3, a4, a5⟩, b0, b1, b2, b3, b4, b5⟩ := hm1.hx; have al := cell_lt a0; obtain ⟨⟨e0, e1, e2, e3, e4, e5⟩, g0, g1, g2, g3, g4, g5⟩ := hm1.hw; have el := cell_lt e0; have HM1 := Lib.hid hm1; clear hm1; simp only [] at a0 a1 a2 a3 a4 a5 e0 e1 e2 e3 e4 e5)
                go_meet
                exact ⟨v, [], .zero, false, rfl, rfl, HM1.out.setx .zero, fun y hy => (by cases hy), by simp⟩
              | cons x xs =>
                have HC : Hid (Calls Try.prog 7 #[.pointer (some ⟨w.heap.size, 0, none⟩)] w3 fun e w' => e = .returned (.tuple #[x.val, .bool true]) ∧ ∃ v', QM w wr.heap.size w' v' (.slice ua (xs.length + 1) uc) (x :: xs) (x :: xs) .zero .zero) := Lib.hid (by
                  have hq := HM.out
                  rw [show ((x :: xs)).length = xs.length + 1 from by simp] at hq
                  refine (lfirst_cons w.heap.size 0 v x xs w3 hq.lst).mono ?_
                  rintro e w' ⟨rfl, hg⟩
                  exact ⟨rfl, v, hq.grow hg⟩)
                obtain ⟨ub, uo, hua, HEL⟩ : ∃ ub uo, ua = some ⟨ub, uo, none⟩ ∧ Hid (∀ W v' ys X Y, QM w wr.heap.size W v' (.slice (some ⟨ub, uo, none⟩) (xs.length + 1) uc) ys (x :: xs) X Y → HelAt W ub (uo + 0 * 6) x) := by
                  obtain ⟨a1, c1, e, _, _, h3⟩ := HM.out.row.any
                  obtain ⟨ub, uo, e2, _⟩ := h3.out (by simp)
                  injection e with e1
                  refine ⟨ub, uo, by rw [e1, e2], Lib.hid ?_⟩
                  intro W v' ys X Y hq
                  obtain ⟨a1, c1, e, _, _, h3⟩ := hq.row.any
                  obtain ⟨ub2, uo2, e2, h4⟩ := h3.out (by simp)
                  injection e with e1
                  rw [e2] at e1
                  cases e1
                  have := h4 0 (by simp)
                  rwa [show ((x :: xs)).getD 0 .zero = x from by simp [List.getD_eq_getElem?_getD]] at this
                subst hua
                have hu1' : ((xs.length + 1 : Nat) : Int) ≤ (uc : Int) := by simp at hu1; omega
                have hu1'' : xs.length + 1 ≤ uc := by simpa using hu1
                rw [show ((x :: xs)).length = xs.length + 1 from by simp]
                have hu4' : 1 ≤ uc := by omega
                have hu6' : (1 : Int) ≤ (xs.length : Int) + 1 := by omega
                have hu5' : (xs.length : Int) + 1 ≤ (uc : Int) := by omega
                clear hu1
                unfold Hel.val at HC
                have i2 : ¬ ((xs.length + 1 : Nat) : Int) = 0 := by omega
                have i4 : (0 : Int) < ((xs.length + 1 : Nat) : Int) := by omega
                have i3 : (0 : Int) ≤ (xs.length : Int) := by omega
                unfold maxLen at hu2
                go_upto_region 14 with (go_at_call 7; refine HC.out.mono ?_; rintro e w1 ⟨rfl, v1, hm1⟩; obtain ⟨⟨a0, a1, a2, a3, a4, a5⟩, b0, b1, b2, b3, b4, b5⟩ := hm1.hx; have al := cell_lt a0; have HM1 := Lib.hid hm1; clear hm1; simp only [Hel.zero] at a0 a1 a2 a3 a4 a5)
                obtain ⟨w2, hw2⟩ : ∃ w2, w2 = ((((((w1.setCell ⟨wr.heap.size + 1, 0, none⟩ (.int .i64 x.t)).setCell ⟨wr.heap.size + 1, 1, none⟩ (.int .i64 x.len)).setCell ⟨wr.heap.size + 1, 2, none⟩ (.int .i64 x.flow)).setCell ⟨wr.heap.size + 1, 3, none⟩ (.int .i64 x.band)).setCell ⟨wr.heap.size + 1, 4, none⟩ (.int .i64 x.mark)).setCell ⟨wr.heap.size + 1, 5, none⟩ (.int .i64 x.n)) := ⟨_, rfl⟩
                have hm2 := HM1.out.setx x
                rw [← hw2] at hm2 ⊢
                clear hw2 a0 a1 a2 a3 a4 a5 b0 b1 b2 b3 b4 b5 al
                obtain ⟨y0, y1, y2, y3, y4, y5⟩ := HEL.out _ _ _ _ _ hm2
                simp only [Nat.zero_mul, Nat.add_zero] at y0 y1 y2 y3 y4 y5
                have yl := cell_lt y0
                obtain ⟨⟨e0, e1, e2, e3, e4, e5⟩, g0, g1, g2, g3, g4, g5⟩ := hm2.hw
                have el := cell_lt e0
                have HM2 := Lib.hid hm2
                clear hm2
                simp only [Hel.zero] at e0 e1 e2 e3 e4 e5
                go_wp2

                go_meet
                exact ⟨v1, x :: xs, x, true, rfl, rfl, by simpa using (HM2.out.setw x), fun y hy => HQK.out.1 y hy, by have := HQK.out.2; simp at this ⊢; omega⟩
      case rest =>
        obtain ⟨v', ys, X, fine, rfl, rfl, HC⟩ := hcut
        clear HM
        obtain ⟨ra, rc, rfl⟩ := HC.out.1.row.shape
        have HALL := Lib.hid (lall_any w.heap.size 0 v' ys wc HC.out.1.lst (by have := HC.out.2.2; omega))
        have HLEN := Lib.hid (fun W (g : Gr wc W) => llen_any w.heap.size 0 v' ys W (HC.out.1.lst.gr g))
        have HBYT := Lib.hid (fun W (g : Gr wc W) => lbytes_any w.heap.size 0 v' ys W (HC.out.1.lst.gr g))
        have hneq : ∀ W, (binOp .neq 32 X.val X.val).run Try.prog W = .ok (.bool false) W := fun W => held_neq X W
        unfold Hel.val at hneq
        go_upto_region 30 with (go_at_call 8; refine HALL.out.mono ?_; rintro e w1 ⟨va, rfl, hr, hg, ho⟩; obtain ⟨aa, ac, rfl⟩ := hr.shape; have HR := Lib.hid hr; have HG := Lib.hid hg; clear hr hg ho)
        have hx := (HC.out.1.grow HG.out).hx.at_
        have hw := (HC.out.1.grow HG.out).hw.at_
        obtain ⟨a0, a1, a2, a3, a4, a5⟩ := hx
        obtain ⟨e0, e1, e2, e3, e4, e5⟩ := hw
        have al := cell_lt a0
        have el := cell_lt e0
        go_wp2_with (go_at_call 9; refine (HLEN.out _ HG.out).mono ?_; rintro e w2 ⟨rfl, rfl⟩)
        clear a0 a1 a2 a3 a4 a5 e0 e1 e2 e3 e4 e5 al el hneq
        have HRU := Lib.hid (HC.out.1.row.gr HG.out)
        go_loopg [12, 14] ys.length (fun q s12 s14 wx => ∃ j, j ≤ ys.length ∧ s14 = .int .i64 (j : Nat) ∧ s12 = .int .i64 (sumLen (ys.take j)) ∧ q = ys.length - j ∧ Hid (Gr w1 wx))
        case atStart => exact ⟨0, Nat.zero_le _, rfl, rfl, rfl, Gr.refl _⟩
        case round =>
          obtain ⟨j, hj, rfl, rfl, rfl, HGW⟩ := hrel
          by_cases hjl : j < ys.length
          · have j0 : (0 : Int) ≤ (j : Int) := by omega
            have j1 : (j : Int) < (ys.length : Int) := by omega
            obtain ⟨a1, c1, ea, _, _, h3⟩ := HR.out.any
            obtain ⟨ab, ao, rfl, h4⟩ := h3.out (by omega)
            injection ea with ea1 ea2 ea3
            subst ea1
            subst ea3
            have hy1 := (h4 j hjl).gr HGW.out
            obtain ⟨a2, c2, eb, _, _, h5⟩ := HRU.out.any
            obtain ⟨bb, bo, rfl, h6⟩ := h5.out (by omega)
            injection eb with eb1 eb2 eb3
            subst eb1
            subst eb3
            have hy2 := (h6 j hjl).gr HGW.out
            clear h3 h4 h5 h6
            have HSU := Lib.hid (show wrap64 (sumLen (ys.take j) + (ys.getD j .zero).len) = sumLen (ys.take (j + 1)) from by
              have hs1 : sumLen (ys.take (j + 1)) = sumLen (ys.take j) + (ys.getD j .zero).len := by
                rw [List.take_add_one, sumLen_app, List.getD_eq_getElem?_getD, List.getElem?_eq_getElem hjl]
                simp [sumLen]
              have hl : Lens (ys.take (j + 1)) := fun y hy => HC.out.2.1 y (List.mem_of_mem_take hy)
              have := hl.sum (by have := HC.out.2.2; rw [List.length_take]; omega)
              rw [← hs1]
              unfold wrap64
              omega)
            have hneq : ∀ W, (binOp .neq 32 (ys.getD j .zero).val (ys.getD j .zero).val).run Try.prog W = .ok (.bool false) W := fun W => held_neq _ W
            unfold Hel.val at hneq
            obtain ⟨a0, a1, a2, a3, a4, a5⟩ := hy1
            obtain ⟨e0, e1, e2, e3, e4, e5⟩ := hy2
            generalize ys.getD j .zero = Y at *
            have al := cell_lt a0
            have el := cell_lt e0
            go_wp2
            rw [HSU.out]
            go_quiet (fail)
            go_wp2
            go_roundg (ys.length - (j + 1))
            case measure => omega
            case rel => exact ⟨j + 1, by omega, congrArg (Value.int .i64) (by have hyn : ys.length ≤ 200 := (by have := HC.out.2.2; omega); unfold wrap64; omega), rfl, rfl, HGW.out.drewN _⟩
          · obtain rfl : j = ys.length := by omega
            rw [List.take_length]
            go_wp2_with (go_at_call 10; refine (HBYT.out _ (HG.out.trans HGW.out)).mono ?_; rintro e w2 ⟨rfl, rfl⟩)
            go_roundg (n - (k + 1))
            case measure => omega
            case rel =>
              have hf := (HC.out.1.grow HG.out).grow HGW.out
              exact ⟨k + 1, v', ys, by omega, by go_num, rfl, ⟨hf.gr, hf.lst, hf.row, fun g hg => (hf.ownv g hg).1, fun g hg => (hf.ownu g hg).1, hf.apart, HC.out.2.1, HC.out.2.2⟩⟩
    · obtain rfl : k = n := by omega
      go_wp2
      go_ret
      exact ⟨rfl, HQ.out.gr⟩

set_option maxRecDepth 100000 in
set_option maxHeartbeats 4000000 in
theorem queueLists_walk (w : World) {v : Value} {n : Nat} {A : Nat → Nat → Int} (hx : Recs 2 w v n A) (_hb : ∀ i, i < n → ∀ j, j < 2 → Bd (A i j)) :
    Calls Try.prog 3 #[v] w fun e w' => e = .returned (.bool true) ∧ Gr w w' := by
  obtain ⟨a0, cap, rfl, hx'⟩ := hx.any
  by_cases hn : n ≤ 100
  · exact queueLists_ok a0 cap n w hn hx'
  · have hgn : (100 : Int) < (n : Int) := by omega
    go_enter Try.func3, Try.ntmps3
    go_wp2
    go_ret
    exact ⟨rfl, Gr.refl _⟩
end Go.Proofs.Ytllmoagnkagalaa

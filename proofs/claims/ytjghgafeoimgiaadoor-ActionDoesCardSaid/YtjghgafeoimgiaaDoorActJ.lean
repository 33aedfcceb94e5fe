/-
  Two programs of actions, the code's and the reference's, one beside the other; a program that gets one more bucket.
-/
import Derived.Test.YtjghgafeoimgiaaDoorActH
namespace Go.Proofs.YtjghgafeoimgiaaDoor
open Go.RowKit

section
variable {S : BKind} {E : TypeId} {w wr w2 : World} {pp n j : Nat} {lv bv v' : Value} {F : Nat → Nat → Int} {Bk : Nat → Bkt} {bp : Nat → Nat}
/-- One more bucket, however it came there. -/
theorem NMid.more2 (h : NMid S E w wr pp lv bv n j F Bk bp) {p : Nat} (hp : wr.heap.size ≤ p) (s2 : Sav (fun g => bv.ownBlock = some g) wr w2) (k2 : KeepC wr w2) (hs : S.at_ w2 p (Bk j) (Bk j).full) (hrow : Row E 1 isPtr w2 v' (j + 1) (ptrL bp j ++ [.pointer (some ⟨p, 0, none⟩)])) (hown : ∀ g, v'.ownBlock = some g → bv.ownBlock = some g ∨ (wr.heap.size ≤ g ∧ g ≠ p)) :
    NMid S E w (w2.setCell ⟨pp, 1, none⟩ v') pp lv v' n (j + 1) F Bk (fun i => if i = j then p else bp i) := by
  have a := h.prog
  have hl := a.lt
  have hp1 : p < w2.heap.size := (S.mine hs).lt
  obtain ⟨la, lc, rfl⟩ := a.recs.shape
  obtain ⟨ba, bc, hbv⟩ := Row.shape a.row
  have hblt : ∀ g, bv.ownBlock = some g → g < wr.heap.size := fun g hg => Row.lt a.row hg
  have hpb : ¬ bv.ownBlock = some pp := fun e => a.nb pp e (.inl rfl)
  have c0 : w2.cell? ⟨pp, 0, none⟩ = some (.slice la n lc) := s2.cell a.c0 hpb
  have c1 : w2.cell? ⟨pp, 1, none⟩ = some bv := s2.cell a.c1 hpb
  have k3 : KeepC w2 (w2.setCell ⟨pp, 1, none⟩ v') := by
    rw [hbv] at c1
    exact .setSlice v' c0 c1
  have s3 : Sav (fun g => g = pp) w2 (w2.setCell ⟨pp, 1, none⟩ v') := .set pp 1 v'
  have hsz : wr.heap.size ≤ w2.heap.size := s2.size
  have hvp : v'.ownBlock ≠ some pp := fun e => by
    rcases hown pp e with h1 | h1
    · exact hpb h1
    · omega
  have hne : ∀ {i : Nat}, i < j → bp i ≠ p := fun {i} hi e => by have := (S.mine (a.st i hi)).lt; omega
  have hbi : ∀ {i : Nat}, i < j → ¬ bv.ownBlock = some (bp i) := fun {i} hi e => a.nb _ e (.inr ⟨i, hi, rfl⟩)
  have hoth : ∀ {i : Nat}, i ≠ 1 → (w2.setCell ⟨pp, 1, none⟩ v').cell? ⟨pp, i, none⟩ = w2.cell? ⟨pp, i, none⟩ := fun {i} hi => World.cell?_setCell_other _ _ _ _ (fun e => hi (by injection e with _ e2; exact e2.symm))
  have hfoot : ∀ g, PFoot pp (j + 1) (fun i => if i = j then p else bp i) g → PFoot pp j bp g ∨ g = p := fun g hg => by
    rcases hg with rfl | ⟨i, hi, rfl⟩
    · exact .inl (.inl rfl)
    · by_cases e : i = j
      · exact .inr (if_pos e)
      · exact .inl (.inr ⟨i, by omega, if_neg e⟩)
  refine ⟨⟨(hoth (by omega)).trans c0, World.cell?_setCell_same _ _ _ c1, fun i hi => (hoth (by omega)).trans (s2.cell (a.cc i hi) hpb), fun i hi => ?_, ?_, ?_, fun i hi => ?_, fun i k hi hk e => ?_, fun i hi => ?_, fun g hg => ?_, fun g hg => ?_⟩, ?_, ?_, h.np, fun i hi => ?_, fun g hg => ?_, fun g hg => ?_⟩
  · simpa using s2.frozen (p := ⟨pp, 2 + i, none⟩) hl (a.ff i hi) hpb
  · exact (a.recs.sav3 s2 (fun g hg e => (h.lo g hg).2 e)).sav3 s3 (fun g hg e => a.nl g hg (.inl e))
  · rw [← ptrL_snoc]
    exact hrow.sav s3 (fun g hg e => hvp (by rw [hg, e]))
  · by_cases e : i = j
    · subst e
      show S.at_ _ (if i = i then p else bp i) (Bk i) (Bk i).full
      rw [if_pos rfl]
      exact S.keep hs (s3.block p hp1 (fun e => by omega)) k3
    · have hij : i < j := by omega
      show S.at_ _ (if i = j then p else bp i) (Bk i) (Bk i).full
      rw [if_neg e]
      have hst := a.st i hij
      have hl1 := (S.mine hst).lt
      exact S.keep (S.keep hst (s2.block _ hl1 (hbi hij)) k2) (s3.block _ (Nat.lt_of_lt_of_le hl1 hsz) (a.np i hij)) k3
  · have e' : (if i = j then p else bp i) = (if k = j then p else bp k) := e
    by_cases h1 : i = j
    · by_cases h2 : k = j
      · omega
      · rw [if_pos h1, if_neg h2] at e'
        exact absurd e'.symm (hne (by omega))
    · by_cases h2 : k = j
      · rw [if_neg h1, if_pos h2] at e'
        exact absurd e' (hne (by omega))
      · rw [if_neg h1, if_neg h2] at e'
        exact a.inj i k (by omega) (by omega) e'
  · show (if i = j then p else bp i) ≠ pp
    by_cases e : i = j
    · rw [if_pos e]; omega
    · rw [if_neg e]; exact a.np i (by omega)
  · intro hf
    rcases hfoot g hf with h1 | h1
    · exact a.nl g hg h1
    · have := (h.lo g hg).1; omega
  · intro hf
    rcases hown g hg with h1 | h1
    · rcases hfoot g hf with h2 | h2
      · exact a.nb g h1 h2
      · have := hblt g h1; omega
    · rcases hfoot g hf with h2 | h2
      · rcases h2 with rfl | ⟨i, hi, rfl⟩
        · omega
        · have := (S.mine (a.st i hi)).lt; omega
      · exact h1.2 h2
  · simpa using s2.frozen (p := ⟨pp, 1, none⟩) hl h.f1 hpb
  · exact Sav.gr (Sav.gr h.gr s2 (fun q e => h.nv q e)) s3 (fun q e => by rw [e]; exact h.np)
  · show w.heap.size ≤ (if i = j then p else bp i)
    by_cases e : i = j
    · rw [if_pos e]; have := h.gr.size; omega
    · rw [if_neg e]; exact h.nb i (by omega)
  · rcases hown g hg with h1 | h1
    · exact h.nv g h1
    · have := h.gr.size; omega
  · have h1 := h.lo g hg
    refine ⟨by simp; omega, fun e => ?_⟩
    rcases hown g e with h2 | h2
    · exact h1.2 h2
    · omega
end

/-- Both programs, and that all that was there of old is kept. -/
structure Two (W wr : World) (pp : Nat) (lv bv : Value) (bp : Nat → Nat) (qp : Nat) (lv' bv' : Value) (bp' : Nat → Nat) (n m : Nat) (F : Nat → Nat → Int) (Bk : Nat → Bkt) (c : Nat → Int) (bs : Nat → BSt) (c' : Nat → Int) (bs' : Nat → BSt) : Prop where
  p : PAt stP 70 wr pp lv bv n m F Bk bp c bs
  q : PAt stR 51 wr qp lv' bv' n m F Bk bp' c' bs'
  gr : Gr W wr
  pw : ∀ g, PFoot pp m bp g → W.heap.size ≤ g
  qw : ∀ g, PFoot qp m bp' g → W.heap.size ≤ g
  ap : ∀ g, PFoot pp m bp g → ¬ PFoot qp m bp' g ∧ lv'.ownBlock ≠ some g ∧ bv'.ownBlock ≠ some g
  aq : ∀ g, PFoot qp m bp' g → ¬ PFoot pp m bp g ∧ lv.ownBlock ≠ some g ∧ bv.ownBlock ≠ some g
  lp : (∀ g, PFoot pp m bp g → g < wr.heap.size) ∧ (∀ g, lv.ownBlock = some g → g < wr.heap.size) ∧ ∀ g, bv.ownBlock = some g → g < wr.heap.size
  lq : (∀ g, PFoot qp m bp' g → g < wr.heap.size) ∧ (∀ g, lv'.ownBlock = some g → g < wr.heap.size) ∧ ∀ g, bv'.ownBlock = some g → g < wr.heap.size
section
variable {W w0 wN wr u : World} {pp qp n m : Nat} {lv bv lv' bv' : Value} {bp bp' : Nat → Nat} {F : Nat → Nat → Int} {Bk : Nat → Bkt} {c c' c2 : Nat → Int} {bs bs' bs2 : Nat → BSt}
theorem below {X : Nat → Prop} {a b : Nat} (hab : a ≤ b) (h : ∀ g, X g → g < a) : ∀ g, X g → g < b := fun g hg => Nat.lt_of_lt_of_le (h g hg) hab
theorem Two.gr' (h : Two W wr pp lv bv bp qp lv' bv' bp' n m F Bk c bs c' bs') (g : Gr wr u) : Two W u pp lv bv bp qp lv' bv' bp' n m F Bk c bs c' bs' :=
  ⟨h.p.gr g, h.q.gr g, h.gr.trans g, h.pw, h.qw, h.ap, h.aq, ⟨below g.size h.lp.1, below g.size h.lp.2.1, below g.size h.lp.2.2⟩, ⟨below g.size h.lq.1, below g.size h.lq.2.1, below g.size h.lq.2.2⟩⟩
theorem Two.doP (h : Two W wr pp lv bv bp qp lv' bv' bp' n m F Bk c bs c' bs') (hp : PAt stP 70 u pp lv bv n m F Bk bp c2 bs2) (d : Did pp m bp wr u) : Two W u pp lv bv bp qp lv' bv' bp' n m F Bk c2 bs2 c' bs' :=
  ⟨hp, h.q.other d.sav d.rat h.ap, Sav.gr h.gr d.sav h.pw, h.pw, h.qw, h.ap, h.aq, ⟨below d.sav.size h.lp.1, below d.sav.size h.lp.2.1, below d.sav.size h.lp.2.2⟩, ⟨below d.sav.size h.lq.1, below d.sav.size h.lq.2.1, below d.sav.size h.lq.2.2⟩⟩
theorem Two.doQ (h : Two W wr pp lv bv bp qp lv' bv' bp' n m F Bk c bs c' bs') (hq : PAt stR 51 u qp lv' bv' n m F Bk bp' c2 bs2) (d : Did qp m bp' wr u) : Two W u pp lv bv bp qp lv' bv' bp' n m F Bk c bs c2 bs2 :=
  ⟨h.p.other d.sav d.rat h.aq, hq, Sav.gr h.gr d.sav h.qw, h.pw, h.qw, h.ap, h.aq, ⟨below d.sav.size h.lp.1, below d.sav.size h.lp.2.1, below d.sav.size h.lp.2.2⟩, ⟨below d.sav.size h.lq.1, below d.sav.size h.lq.2.1, below d.sav.size h.lq.2.2⟩⟩
theorem NMid.foot {S : BKind} {E : TypeId} {w wr : World} {j : Nat} (h : NMid S E w wr pp lv bv n j F Bk bp) : (∀ g, PFoot pp j bp g → w.heap.size ≤ g) ∧ ∀ g, PFoot pp j bp g → g < wr.heap.size := by
  constructor
  · rintro g (rfl | ⟨i, hi, rfl⟩)
    · exact h.np
    · exact h.nb i hi
  · rintro g (rfl | ⟨i, hi, rfl⟩)
    · exact h.prog.lt
    · exact (S.mine (h.prog.st i hi)).lt
theorem Two.first (hp : NMid stP 70 w0 wN pp lv bv n m F Bk bp) (g0 : Gr W w0) (hq : NMid stR 51 wN wr qp lv' bv' n m F Bk bp') (hl : ∀ g, lv'.ownBlock = some g → g < w0.heap.size) : Two W wr pp lv bv bp qp lv' bv' bp' n m F Bk (fun _ => 0) (fun i => (Bk i).full) (fun _ => 0) (fun i => (Bk i).full) := by
  have s1 := g0.size
  have s2 := hp.gr.size
  have s3 := hq.gr.size
  have f1 := hp.foot
  have f2 := hq.foot
  refine ⟨hp.prog.gr hq.gr, hq.prog, g0.trans (hp.gr.trans hq.gr), fun g hg => ?_, fun g hg => ?_, fun g hg => ⟨fun e => ?_, fun e => ?_, fun e => ?_⟩, fun g hg => ⟨fun e => ?_, fun e => ?_, fun e => ?_⟩, ⟨below s3 f1.2, below s3 (fun g hg => (hp.lo g hg).1), below s3 (fun g hg => Row.lt hp.prog.row hg)⟩, ⟨f2.2, fun g hg => (hq.lo g hg).1, fun g hg => Row.lt hq.prog.row hg⟩⟩
  · have := f1.1 g hg; omega
  · have := f2.1 g hg; omega
  · have := f1.2 g hg; have := f2.1 g e; omega
  · have := f1.1 g hg; have := hl g e; omega
  · have := f1.2 g hg; have := hq.nv g e; omega
  · have := f1.2 g e; have := f2.1 g hg; omega
  · have := f2.1 g hg; have := (hp.lo g e).1; omega
  · have := f2.1 g hg; have := Row.lt hp.prog.row e; omega
end
theorem grown_gr {a b c : World} {row : Option Nat} (h : a.grownBy b row) (g : Gr b c) : a.grownBy c row :=
  ⟨g.os.trans h.os, g.tape.trans h.tape, g.output.trans h.output, Nat.le_trans h.size g.size, fun k hk hr => (g.block (Nat.lt_of_lt_of_le hk h.size)).trans (h.block k hk hr)⟩
theorem flatF_succ (F : Nat → Nat → Int) (k : Nat) : flatF F k ++ [.int .i64 (F k 0), .int .i64 (F k 1), .int .i64 (F k 2)] = flatF F (k + 1) := rfl
theorem info_raE : (Tryd.prog.info? 29).map (fun i => (i.zero, i.size, i.bytes)) = some (some (.agg #[.int .i64 0, .int .i64 0, .int .i64 0]), 3, 24) := by kernel_rfl
theorem info_rbE : (Tryd.prog.info? 33).map (fun i => (i.zero, i.size, i.bytes)) = some (some (.agg #[.int .i64 0, .int .i64 0, .int .i64 0]), 3, 24) := by kernel_rfl
theorem info_fiE : (Tryd.prog.info? 51).map (fun i => (i.zero, i.size, i.bytes)) = some (some (.pointer none), 1, 8) := by kernel_rfl
theorem tellP_is (w : World) (c : Int) : ErrIs w (tellP c) (if c = 2 then 11 else 0) (-1) := by
  unfold tellP
  by_cases h : c = 2
  · rw [if_pos h, if_pos h]; exact .no _ _
  · rw [if_neg h, if_neg h]; exact .nil _
end Go.Proofs.YtjghgafeoimgiaaDoor

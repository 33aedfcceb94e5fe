/-
  strings.SplitSeq: its iterator, walked; a range over it.
-/
import Derived.Test.YtofhmbbodoedjaaDoorIpE
import Derived.Test.YtofhmbbodoedjaaDoorRowN
import Derived.RangeFuncNested
import Derived.RangeFuncBound
import Derived.RangeFuncCalls
import Derived.RangeFuncLeaves
import Derived.Shelf.Abstract
import Derived.Shelf.RegionOpen
import Derived.WalkKit
import Derived.OwnWalkIn
import Derived.TacticsInMore
import Derived.LoopNIn
import Derived.LoopIn
namespace Go.Proofs.YtofhmbbodoedjaaDoor
open Go Go.RowKit Go.Shelf
attribute [local go_sem] Oper.semAt_some

/-- Block b is a box that holds v. -/
def Bx (w : World) (b : Nat) (v : Value) (ty : TypeId) : Prop := w.heap[b]? = some (.cells #[v] ty (0, 0))
section
variable {w w' : World} {b : Nat} {v : Value} {ty : TypeId}
theorem Bx.c (h : Bx w b v ty) : w.cell? ⟨b, 0, none⟩ = some v := cell_of_row w b 0 _ _ _ h
theorem Bx.fz (h : Bx w b v ty) : w.frozen? ⟨b, 0, none⟩ = false := by
  unfold World.frozen?
  have : w.heap[b]? = _ := h
  simp [this]
theorem Bx.to (h : Bx w b v ty) (e : w'.heap[b]? = w.heap[b]?) : Bx w' b v ty := e.trans h
theorem Bx.set (h : Bx w b v ty) (u : Value) : Bx (w.setCell ⟨b, 0, none⟩ u) b u ty := by
  have h2 : w.heap[b]? = _ := h
  unfold Bx
  simp [World.setCell, Array.getElem?_modify, h2]
theorem Bx.lt (h : Bx w b v ty) : b < w.heap.size := (Array.getElem?_eq_some_iff.1 h).1
theorem Bx.new (w : World) (v : Value) (ty : TypeId) : Bx (w.alloc (.cells #[v] ty)) w.heap.size v ty := heap_alloc_new w _
theorem Bx.gr (h : Bx w b v ty) (g : Gr w w') : Bx w' b v ty := h.to (g.block h.lt)
end
theorem set_other (w : World) {b q : Nat} (u : Value) (h : q ≠ b) : (w.setCell ⟨b, 0, none⟩ u).heap[q]? = w.heap[q]? := Below.heap_setCell _ _ _ _ h
def mesB (b : Nat) (w : World) : Nat := match w.cell? ⟨b, 0, none⟩ with
  | some (.string s) => s.size + 1
  | _ => 0
theorem mesB_at {b : Nat} {w : World} {s : ByteArray} {ty : TypeId} (h : Bx w b (.string s) ty) : mesB b w = s.size + 1 := by
  unfold mesB
  rw [h.c]
theorem index_g (s c : ByteArray) (hs : s.size ≤ 20001) (w : World) (hm : ∃ m, w.cell? ⟨2, 0, none⟩ = some (.int .i64 m)) : Calls Tryd.prog 28 #[.string s, .string c] w fun e w' => e = .returned (.int .i64 (Lib.indexB s c)) ∧ w' = w := by
  obtain ⟨m, hm⟩ := hm
  exact Tryd.strings_Index s c m w (by omega) hm
/-- The iterator's three boxes stand, and the library's length. -/
structure Stay (bp bs bv : Nat) (w w' : World) : Prop where
  p : w'.heap[bp]? = w.heap[bp]?
  s : w'.heap[bs]? = w.heap[bs]?
  v : w'.heap[bv]? = w.heap[bv]?
  m : w'.heap[2]? = w.heap[2]?
set_option maxRecDepth 100000 in
set_option maxHeartbeats 4000000 in
/-- The iterator, at any loop's body. -/
theorem split_in (n l bp bs bv : Nat) (c : ByteArray) (hc : c.size = 1) (h1 : bs ≠ bp) (h2 : bs ≠ bv) (h3 : bs ≠ 2) (J : List ByteArray → World → Prop) (Jx : World → Prop)
    (hJ : ∀ L W x, J L W → J L (W.setCell ⟨bs, 0, none⟩ (.string x)))
    (hY : ∀ x L W, J (x :: L) W → YieldAt Fence.wide (n - 1) Tryd.prog l #[.string x] W fun e W' => (e = .returned (.bool true) ∧ J L W' ∧ Stay bp bs bv W W') ∨ (e = .returned (.bool false) ∧ Jx W'))
    (t : ByteArray) (ht : t.size ≤ 20001) (W : World) (b1 : Bx W bp (.string c) 9) (b2 : Bx W bs (.string t) 9) (b3 : Bx W bv (.int .i64 0) 3) (hm : ∃ m, W.cell? ⟨2, 0, none⟩ = some (.int .i64 m)) (h0 : J (pcs c t) W) :
    CallsIn Fence.wide n Tryd.prog 33 #[.func (.yield l) #[] #[], .pointer (some ⟨bp, 0, none⟩), .pointer (some ⟨bs, 0, none⟩), .pointer (some ⟨bv, 0, none⟩)] W fun e W' => (∃ v, e = .returned v) ∧ (J [] W' ∨ Jx W') := by
  have HJ := Lib.hid hJ
  have HY := Lib.hid hY
  have HC := Lib.hid hc
  have c1 := b1.c
  have B1 := Lib.hid b1
  have B2 := Lib.hid b2
  have B3 := Lib.hid b3
  have HM := Lib.hid hm
  have H0 := Lib.hid h0
  have HT := Lib.hid ht
  clear hJ hY b1 b2 b3 hm h0 hc ht
  have HLC : ∀ w ty, (Builtin.len_ #[9] ty #[.string c]).run Tryd.prog w = .ok (.int .i64 1) w := fun w ty => by have := HC.out; simp [go_sem, Tryd.underlying9, this]
  refine callsIn_of_wp Tryd.func33 rfl trivial ?_ rfl
  simp only [Tryd.ntmps33, List.size_toArray, List.length_cons, List.length_nil, Nat.reduceAdd, Nat.reduceSub, Array.replicate_succ, Array.replicate_zero, List.push_toArray, List.append_toArray, List.nil_append, List.cons_append]
  gi_wp2
  gi_loopw [7, 8] (fun s7 s8 wr => ∃ s : ByteArray, Hid (J (pcs c s) wr ∧ Bx wr bp (.string c) 9 ∧ Bx wr bs (.string s) 9 ∧ Bx wr bv (.int .i64 0) 3 ∧ (∃ m, wr.cell? ⟨2, 0, none⟩ = some (.int .i64 m)) ∧ s.size ≤ 20001)) (fun _ _ wr => mesB bs wr)
  case atStart => exact ⟨t, Lib.hid ⟨H0.out, B1.out, B2.out, B3.out, HM.out, HT.out⟩⟩
  case round =>
    obtain ⟨s, HR⟩ := hrel
    clear H0 B1 B2 B3 HM HT c1
    have c1 := HR.out.2.1.c
    have c2 := HR.out.2.2.1.c
    have c3 := HR.out.2.2.2.1.c
    rcases Lib.indexB_cases s c with hix | ⟨i, hix, hle⟩
    · have hp := pcs_miss hix
      have HJ1 : Hid (J [s] wr) := Lib.hid (by rw [← hp]; exact HR.out.1)
      obtain ⟨fn, tmps, assign, body, hy, hRR⟩ := HY.out s [] wr HJ1.out
      have HRR := Lib.hid hRR
      have HIX := Lib.hid hix
      clear hRR hp hix
      gi_wp2_with (refine ⟨trivial, (fun h => by cases h), ?_⟩; gi_at_call 28; refine (callsIn_wide.2 (index_g s c HR.out.2.2.2.2.2 _ HR.out.2.2.2.2.1)).mono ?_; rintro e w2 ⟨rfl, hww⟩; replace hww := hww.symm; subst hww; rw [HIX.out])
      refine ⟨(fun h => by cases h), ?_⟩
      refine HRR.out.mono ?_
      rintro e W' (⟨rfl, hJ', hk⟩ | ⟨rfl, hJx'⟩)
      · have HJ2 := Lib.hid hJ'
        clear hJ' hk
        gi_wp2
        go_end0
        exact ⟨⟨_, rfl⟩, .inl HJ2.out⟩
      · have HJ2 := Lib.hid hJx'
        clear hJx'
        gi_wp2
        go_end0
        exact ⟨⟨_, rfl⟩, .inr HJ2.out⟩
    · have hp := pcs_hit HC.out hix
      rw [HC.out] at hp hle
      obtain ⟨x, hx⟩ : ∃ x, x = s.extract 0 i := ⟨_, rfl⟩
      obtain ⟨r, hr⟩ : ∃ r, r = s.extract (i + 1) s.size := ⟨_, rfl⟩
      have HR1 : Hid (r.size = s.size - (i + 1)) := Lib.hid (by rw [hr]; exact ext_size s (Nat.le_refl _))
      have HSZ := Lib.hid HR.out.2.2.2.2.2
      have HLE := Lib.hid hle
      have HJ1 : Hid (J (x :: pcs c r) wr) := Lib.hid (by rw [hx, hr, ← hp]; exact HR.out.1)
      obtain ⟨fn, tmps, assign, body, hy, hRR⟩ := HY.out x (pcs c r) wr HJ1.out
      have HRR := Lib.hid hRR
      have HIX := Lib.hid hix
      have i0 : (0 : Int) ≤ (i : Int) := by omega
      have i1 : (i : Int) ≤ 20001 := by have := HSZ.out; omega
      have hs1 : ∀ w, (Instr.sliceAt 9 (.string s) none (some (.int .i64 (i : Int))) none).run Tryd.prog w = .ok (.string x) w := fun w => by
        have e1 : (i : Int) ≤ (s.size : Int) := by have := HLE.out; omega
        have := run_slice_string_h (P := Tryd.prog) w 9 s Tryd.underlying9 .i64 (i : Int) i0 e1
        rw [hx]
        simpa [Instr.sliceAt] using this
      have hs2 : ∀ w, (Instr.sliceAt 9 (.string s) (some (.int .i64 ((i : Int) + 1))) none none).run Tryd.prog w = .ok (.string r) w := fun w => by
        have e1 : (i : Int) + 1 ≤ (s.size : Int) := by have := HLE.out; omega
        have := run_slice_string_l (P := Tryd.prog) w 9 s Tryd.underlying9 .i64 ((i : Int) + 1) (by omega) e1
        rw [hr]
        simpa [Instr.sliceAt] using this
      clear hRR hp hix hle hx hr
      gi_wp2_with (refine ⟨trivial, (fun h => by cases h), ?_⟩; gi_at_call 28; refine (callsIn_wide.2 (index_g s c HR.out.2.2.2.2.2 _ HR.out.2.2.2.2.1)).mono ?_; rintro e w2 ⟨rfl, hww⟩; replace hww := hww.symm; subst hww; rw [HIX.out])
      refine ⟨(fun h => by cases h), ?_⟩
      refine HRR.out.mono ?_
      rintro e W' (⟨rfl, hJ', hk⟩ | ⟨rfl, hJx'⟩)
      · have HJ2 := Lib.hid hJ'
        have HK := Lib.hid hk
        have d2 := (HR.out.2.2.1.to hk.s).c
        have d3 := (HR.out.2.2.1.to hk.s).fz
        have d1 := (HR.out.2.1.to hk.p).c
        clear hJ' hk
        gi_wp2
        go_roundw
        case rel =>
          refine ⟨r, Lib.hid ⟨HJ.out _ _ _ HJ2.out, ?_, (HR.out.2.2.1.to HK.out.s).set _, ?_, ?_, by have := HR1.out; have := HSZ.out; omega⟩⟩
          · exact (HR.out.2.1.to HK.out.p).to (set_other _ _ (fun e => h1 e.symm))
          · exact (HR.out.2.2.2.1.to HK.out.v).to (set_other _ _ (fun e => h2 e.symm))
          · obtain ⟨m, hm⟩ := HR.out.2.2.2.2.1
            exact ⟨m, (World.cell?_of_block (a := ⟨2, 0, none⟩) ((set_other W' _ (fun e => h3 e.symm)).trans HK.out.m)).trans hm⟩
        case measure =>
          rw [mesB_at ((HR.out.2.2.1.to HK.out.s).set (.string r)), mesB_at HR.out.2.2.1]
          have := HR1.out
          have := HLE.out
          omega
      · have HJ2 := Lib.hid hJx'
        clear hJx'
        gi_wp2
        exact bodyPost_ret (results_none rfl _ _ _) rfl ⟨⟨_, rfl⟩, .inr HJ2.out⟩
end Go.Proofs.YtofhmbbodoedjaaDoor

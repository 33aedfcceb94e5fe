/-
  The frame of ItemParses: what the listed variables give.
-/
import Derived.Test.YtofhmbbodoedjaaDoorFrameP
import Derived.Test.YtofhmbbodoedjaaDoorCards
import Derived.Test.YtofhmbbodoedjaaDoorTie
import Derived.Test.YtofhmbbodoedjaaDoorIpE
import Derived.Test.YtofhmbbodoedjaaDoorItemB
import Derived.Lib.LaidTab
import Derived.Stop.LaidErr
import Derived.Deep.Fields
import Derived.Shelf.Vars
import Derived.Deep.DeepWitnessRowRef
import Derived.ChangeMaps5
namespace Go.Proofs.YtofhmbbodoedjaaDoor
open Go.ChangeShapes Go.WideShapes Go.ChangeAt Go.RowKit Go.Deep

/-! The listed variables. -/
abbrev LL := List (String × DataW Unit)
theorem tab_type : (Tryd.prog.globals[5]?).map (·.type) = some 126 := by kernel_rfl
set_option maxRecDepth 100000 in
theorem tab_datum : (Rows.laid_internal_strconv_uint64pow10 : DataW Unit) = Lib.tabData .u64 Lib.pow10Tab := by rfl
theorem tab_of_head {W : World} {r : LL} (h : laidMet Tryd.prog (("internal/strconv.uint64pow10", Rows.laid_internal_strconv_uint64pow10) :: r) W) : Tab W := by
  rw [tab_datum] at h
  exact Lib.tabIs_of_head tab_named tab_type Tryd.underlying126 Tryd.underlying94 (by kernel_rfl) (by kernel_rfl) h
/-- A variable that holds an interface value. -/
theorem iface_of_head {W : World} {n nm : String} {d : DataW Unit} {r : LL} {g ti : Nat} {ms : Array (String × TypeId)} (h : laidMet Tryd.prog ((n, .iface nm d) :: r) W) (hg : Tryd.prog.globalNamed n = some g) (ht : (Tryd.prog.globals[g]?).map (·.type) = some ti) (hi : Tryd.prog.underlying ti = some (.interface ms)) : ∃ tp p, W.cell? ⟨g, 0, none⟩ = some (.iface tp p) := by
  obtain ⟨ps, ⟨g0, t0, cs0, f0, p0, q0, hg0, ht0, hv0, hd0, _, e0⟩, _, hrows⟩ := h
  obtain rfl := Option.some.inj (hg.symm.trans hg0)
  obtain rfl := Option.some.inj (ht.symm.trans ht0)
  obtain ⟨f', u, v, hcs, _, _⟩ := iface_of_trod hi hd0
  obtain ⟨l0⟩ := cs0
  simp only at hcs
  subst hcs
  exact ⟨u, v, by simpa using World.var?_cell hg0 hv0 0⟩
theorem gFineF : Tryd.prog.globalNamed "millrace/millraceref.Fine" = some 0 := by kernel_rfl
theorem gFineTypeF : (Tryd.prog.globals[0]?).map (·.type) = some 25 := by kernel_rfl
set_option maxRecDepth 100000 in
theorem fine_of_head {W : World} {r : LL} (h : laidMet Tryd.prog (("millrace/millraceref.Fine", Rows.laid_millrace_millraceref_Fine) :: r) W) : W.cell? ⟨0, 0, none⟩ = some (.int .i64 0) ∧ W.cell? ⟨0, 1, none⟩ = some (.int .i64 (-1)) := by
  obtain ⟨ps, ⟨g, t, cs, fuel, p, q, hg, ht, hv, htr, _⟩, _⟩ := h
  obtain rfl : 0 = g := Option.some.inj (gFineF.symm.trans hg)
  obtain rfl : 25 = t := Option.some.inj (gFineTypeF.symm.trans ht)
  obtain ⟨xs, m, _, hx, hcl, hl, hf⟩ := DataW.trod_struct Tryd.underlying25 htr
  have e0 : DataW.trod (fun _ => ()) Tryd.prog W 0 (fun _ => true) false m 23 ((cs.toList.drop 0).take (Tryd.prog.cellsOf 23)) = xs[0]? := hf 0 _ rfl
  have e1 : DataW.trod (fun _ => ()) Tryd.prog W 0 (fun _ => true) false m 3 ((cs.toList.drop 1).take (Tryd.prog.cellsOf 3)) = xs[1]? := hf 1 _ rfl
  have hlen : cs.toList.length = 2 := hcl.trans (by kernel_rfl)
  have k0 : Tryd.prog.cellsOf 23 = 1 := by kernel_rfl
  rw [k0] at e0
  rw [cellsInt] at e1
  obtain ⟨l⟩ := cs
  match l, hlen with
  | [c0, c1], _ =>
    match xs, hl with
    | [y0, y1], _ =>
      simp only [Prod.mk.injEq] at hx
      obtain ⟨z0, g0, r0, _⟩ := DataW.trod_int Tryd.underlying23 e0
      obtain ⟨z1, g1, r1, _⟩ := DataW.trod_int Tryd.underlying3 e1
      have hx1 := hx.1
      simp only [Rows.laid_millrace_millraceref_Fine, r0, r1, List.map_cons, List.map_nil, DataW.agg.injEq, List.cons.injEq, DataW.lit.injEq, Lit.int.injEq, and_true, true_and] at hx1
      obtain ⟨h0, h1⟩ := hx1
      simp at g0 g1
      refine ⟨?_, ?_⟩
      · have := World.var?_cell gFineF hv 0
        simpa [g0, ← h0] using this
      · have := World.var?_cell gFineF hv 1
        simpa [g1, ← h1] using this
theorem gSyn : Tryd.prog.globalNamed "strconv.ErrSyntax" = some 3 := by kernel_rfl
theorem gSynType : (Tryd.prog.globals[3]?).map (·.type) = some 29 := by kernel_rfl
theorem gRng : Tryd.prog.globalNamed "strconv.ErrRange" = some 4 := by kernel_rfl
theorem gRngType : (Tryd.prog.globals[4]?).map (·.type) = some 29 := by kernel_rfl
theorem mx_of_shape {W : World} (h : W.ShapedOpen Tryd.prog) : ∃ m, W.cell? ⟨2, 0, none⟩ = some (.int .i64 m) :=
  Go.Proofs.cell_of_shapedOpen_int (zero := #[.int .i64 0]) (t := 3) h (of_decide_eq_true (by kernel_rfl)) (by kernel_rfl) rfl (by kernel_rfl) (by kernel_rfl) Tryd.underlying3
/-- What ItemParses finds laid. -/
abbrev laidI : LL := [("math/bits.deBruijn32tab", Rows.laid_math_bits_deBruijn32tab), ("math/bits.deBruijn64tab", Rows.laid_math_bits_deBruijn64tab), ("internal/strconv.uint64pow10", Rows.laid_internal_strconv_uint64pow10), ("unicode/utf8.acceptRanges", Rows.laid_unicode_utf8_acceptRanges), ("strconv.ErrRange", Rows.laid_strconv_ErrRange), ("strconv.ErrSyntax", Rows.laid_strconv_ErrSyntax), ("millrace/millraceref.Fine", Rows.laid_millrace_millraceref_Fine), ("unicode/utf8.first", Rows.laid_unicode_utf8_first)]
/-- All of it. -/
theorem env_of_laid {W : World} (h : laidMet Tryd.prog laidI W) (hs : W.ShapedOpen Tryd.prog) : Env W ∧ FineIs W := by
  have h2 := laidMet.tail (laidMet.tail h)
  have h3 := laidMet.tail (laidMet.tail h2)
  have h4 := laidMet.tail h3
  have h5 := laidMet.tail h4
  exact ⟨⟨tab_of_head h2, iface_of_head h4 gSyn gSynType Tryd.underlying29, iface_of_head h3 gRng gRngType Tryd.underlying29, mx_of_shape hs⟩, fine_of_head h5⟩
/-- The cells of a laid table. -/
def laidCells : DataW Unit → Array Value
  | .agg ds => (ds.flatMap fun | .lit (.int k z) => [Value.int k z] | .agg es => (es.map fun | .lit (.int k z) => Value.int k z | _ => undef) | _ => [undef]).toArray
  | .iface _ (.ptr (.agg [.lit (.string s)])) => #[Value.string ⟨s.toArray⟩]
  | _ => #[]
end Go.Proofs.YtofhmbbodoedjaaDoor

/-
  The frame of the filters' laws: a text, a packet that came in; what the listed variables give.
-/
import Derived.Test.YthkccohigoejgaaGreatDoorFrameP
import Derived.Test.YthkccohigoejgaaGreatDoorCards
import Derived.Test.YthkccohigoejgaaGreatDoorTie
import Derived.Test.YthkccohigoejgaaGreatDoorFltE
import Derived.Lib.LaidTab
import Derived.Stop.LaidErr
import Derived.Deep.Fields
import Derived.Deep.Strs
import Derived.Shelf.Vars
import Derived.Deep.DeepWitnessRowRef
import Derived.ChangeMaps5
namespace Go.Proofs.YthkccohigoejgaaGreatDoor
open Go.ChangeShapes Go.WideShapes Go.ChangeAt Go.RowKit Go.Deep

/-- Bounds of a packet's numbers. -/
def Itm.bd (x : Itm) : Prop := (-9223372036854775808 ≤ x.t ∧ x.t ≤ 9223372036854775807) ∧ (-9223372036854775808 ≤ x.len ∧ x.len ≤ 9223372036854775807) ∧ (-9223372036854775808 ≤ x.flow ∧ x.flow ≤ 9223372036854775807) ∧ (-9223372036854775808 ≤ x.band ∧ x.band ≤ 9223372036854775807) ∧ (-9223372036854775808 ≤ x.mark ∧ x.mark ≤ 9223372036854775807)

theorem five {α : Type} {l : List α} (h : l.length = 5) : ∃ a b c d e, l = [a, b, c, d, e] := by
  match l, h with
  | [a, b, c, d, e], _ => exact ⟨a, b, c, d, e, rfl⟩

theorem itemFields : ∃ f0 f1 f2 f3 f4 : Field, Tryz.prog.underlying 188 = some (.struct #[f0, f1, f2, f3, f4]) ∧ (f0.offset = 0 ∧ f1.offset = 1 ∧ f2.offset = 2 ∧ f3.offset = 3 ∧ f4.offset = 4) ∧ f0.type = 3 ∧ f1.type = 3 ∧ f2.type = 3 ∧ f3.type = 3 ∧ f4.type = 3 :=
  ⟨_, _, _, _, _, Tryz.underlying188, ⟨rfl, rfl, rfl, rfl, rfl⟩, rfl, rfl, rfl, rfl, rfl⟩
theorem cellsItem : Tryz.prog.cellsOf 188 = 5 := by kernel_rfl

set_option maxRecDepth 100000 in
theorem item_of_cells {H : Type} {enc : TypeId × Value → H} {W : World} {n : Nat} {cs : List Value} {y : DataW H × List MemPlace} (h : DataW.trod enc Tryz.prog W 0 (fun _ => true) true n 188 cs = some y) :
    ∃ x : Itm, cs = [.int .i64 x.t, .int .i64 x.len, .int .i64 x.flow, .int .i64 x.band, .int .i64 x.mark] ∧ x.bd := by
  obtain ⟨f0, f1, f2, f3, f4, hu, ⟨o0, o1, o2, o3, o4⟩, t0, t1, t2, t3, t4⟩ := itemFields
  obtain ⟨xs, m, _, _, hcl, hl, hf⟩ := DataW.trod_struct hu h
  rw [cellsItem] at hcl
  obtain ⟨c0, c1, c2, c3, c4, rfl⟩ := five hcl
  obtain ⟨y0, y1, y2, y3, y4, rfl⟩ := five (hl.trans rfl)
  have e0 := hf 0 f0 rfl
  have e1 := hf 1 f1 rfl
  have e2 := hf 2 f2 rfl
  have e3 := hf 3 f3 rfl
  have e4 := hf 4 f4 rfl
  rw [o0, t0, cellsInt] at e0
  rw [o1, t1, cellsInt] at e1
  rw [o2, t2, cellsInt] at e2
  rw [o3, t3, cellsInt] at e3
  rw [o4, t4, cellsInt] at e4
  obtain ⟨z0, g0, b0⟩ := int_cell Tryz.underlying3 e0
  obtain ⟨z1, g1, b1⟩ := int_cell Tryz.underlying3 e1
  obtain ⟨z2, g2, b2⟩ := int_cell Tryz.underlying3 e2
  obtain ⟨z3, g3, b3⟩ := int_cell Tryz.underlying3 e3
  obtain ⟨z4, g4, b4⟩ := int_cell Tryz.underlying3 e4
  simp at g0 g1 g2 g3 g4
  subst g0 g1 g2 g3 g4
  exact ⟨⟨z0, z1, z2, z3, z4⟩, rfl, b0, b1, b2, b3, b4⟩

set_option maxRecDepth 100000 in
theorem item_of_trod {H : Type} {enc : TypeId × Value → H} {W : World} {base : Nat} {v : Value} {d : DataW H} {ps : List MemPlace} (hok : Value.okWide Tryz.prog W .any base 188 v) (h : DataW.Trod enc Tryz.prog W 0 (fun _ => true) true 188 v d ps) :
    ∃ x : Itm, v = x.val ∧ x.bd := by
  obtain ⟨cs, rfl, hsz⟩ := okWide_struct Tryz.underlying188 hok
  obtain ⟨fuel, hf⟩ := h
  obtain ⟨x, hx, hb⟩ := item_of_cells (cs := cs.toList) hf
  refine ⟨x, ?_, hb⟩
  obtain ⟨l⟩ := cs
  simp only at hx
  rw [hx]
  rfl
/-! The listed variables. -/
abbrev LL := List (String × DataW Unit)
theorem tab_type : (Tryz.prog.globals[5]?).map (·.type) = some 149 := by kernel_rfl
set_option maxRecDepth 100000 in
theorem tab_datum : (Rows.laid_internal_strconv_uint64pow10 : DataW Unit) = Lib.tabData .u64 Lib.pow10Tab := by rfl
theorem tab_of_head {W : World} {r : LL} (h : laidMet Tryz.prog (("internal/strconv.uint64pow10", Rows.laid_internal_strconv_uint64pow10) :: r) W) : Tab W := by
  rw [tab_datum] at h
  exact Lib.tabIs_of_head tab_named tab_type Tryz.underlying149 Tryz.underlying135 (by kernel_rfl) (by kernel_rfl) h
/-- A variable that holds an interface value. -/
theorem iface_of_head {W : World} {n nm : String} {d : DataW Unit} {r : LL} {g ti : Nat} {ms : Array (String × TypeId)} (h : laidMet Tryz.prog ((n, .iface nm d) :: r) W) (hg : Tryz.prog.globalNamed n = some g) (ht : (Tryz.prog.globals[g]?).map (·.type) = some ti) (hi : Tryz.prog.underlying ti = some (.interface ms)) : ∃ tp p, W.cell? ⟨g, 0, none⟩ = some (.iface tp p) := by
  obtain ⟨ps, ⟨g0, t0, cs0, f0, p0, q0, hg0, ht0, hv0, hd0, _, e0⟩, _, hrows⟩ := h
  obtain rfl := Option.some.inj (hg.symm.trans hg0)
  obtain rfl := Option.some.inj (ht.symm.trans ht0)
  obtain ⟨f', u, v, hcs, _, _⟩ := iface_of_trod hi hd0
  obtain ⟨l0⟩ := cs0
  simp only at hcs
  subst hcs
  exact ⟨u, v, by simpa using World.var?_cell hg0 hv0 0⟩
theorem gFineF : Tryz.prog.globalNamed "millrace/millraceref.Fine" = some 1 := by kernel_rfl
theorem gFineTypeF : (Tryz.prog.globals[1]?).map (·.type) = some 25 := by kernel_rfl
set_option maxRecDepth 100000 in
theorem fine_of_head {W : World} {r : LL} (h : laidMet Tryz.prog (("millrace/millraceref.Fine", Rows.laid_millrace_millraceref_Fine) :: r) W) : W.cell? ⟨1, 0, none⟩ = some (.int .i64 0) ∧ W.cell? ⟨1, 1, none⟩ = some (.int .i64 (-1)) := by
  obtain ⟨ps, ⟨g, t, cs, fuel, p, q, hg, ht, hv, htr, _⟩, _⟩ := h
  obtain rfl : 1 = g := Option.some.inj (gFineF.symm.trans hg)
  obtain rfl : 25 = t := Option.some.inj (gFineTypeF.symm.trans ht)
  obtain ⟨xs, m, _, hx, hcl, hl, hf⟩ := DataW.trod_struct Tryz.underlying25 htr
  have e0 : DataW.trod (fun _ => ()) Tryz.prog W 0 (fun _ => true) false m 23 ((cs.toList.drop 0).take (Tryz.prog.cellsOf 23)) = xs[0]? := hf 0 _ rfl
  have e1 : DataW.trod (fun _ => ()) Tryz.prog W 0 (fun _ => true) false m 3 ((cs.toList.drop 1).take (Tryz.prog.cellsOf 3)) = xs[1]? := hf 1 _ rfl
  have hlen : cs.toList.length = 2 := hcl.trans (by kernel_rfl)
  have k0 : Tryz.prog.cellsOf 23 = 1 := by kernel_rfl
  rw [k0] at e0
  rw [cellsInt] at e1
  obtain ⟨l⟩ := cs
  match l, hlen with
  | [c0, c1], _ =>
    match xs, hl with
    | [y0, y1], _ =>
      simp only [Prod.mk.injEq] at hx
      obtain ⟨z0, g0, r0, _⟩ := DataW.trod_int Tryz.underlying23 e0
      obtain ⟨z1, g1, r1, _⟩ := DataW.trod_int Tryz.underlying3 e1
      have hx1 := hx.1
      simp only [Rows.laid_millrace_millraceref_Fine, r0, r1, List.map_cons, List.map_nil, DataW.agg.injEq, List.cons.injEq, DataW.lit.injEq, Lit.int.injEq, and_true, true_and] at hx1
      obtain ⟨h0, h1⟩ := hx1
      simp at g0 g1
      refine ⟨?_, ?_⟩
      · have := World.var?_cell gFineF hv 0
        simpa [g0, ← h0] using this
      · have := World.var?_cell gFineF hv 1
        simpa [g1, ← h1] using this
theorem gFlds : Tryz.prog.globalNamed "millrace/filter.fields" = some 2 := by kernel_rfl
theorem gFldsType : (Tryz.prog.globals[2]?).map (·.type) = some 68 := by kernel_rfl
theorem cellsStr : Tryz.prog.cellsOf 9 = 1 := by kernel_rfl
theorem five5 {α : Type} {l : List α} (h : l.length = 5) : ∃ a b c d e, l = [a, b, c, d, e] := five h
theorem str_eq {a : ByteArray} {l : List UInt8} (h : a.data.toList = l) : a = ⟨l.toArray⟩ := by
  subst h
  rfl
set_option maxRecDepth 100000 in
theorem flds_of_head {W : World} {r : LL} (h : laidMet Tryz.prog (("millrace/filter.fields", Rows.laid_millrace_filter_fields) :: r) W) : ∀ j, j < 5 → W.cell? ⟨2, j, none⟩ = some (.string (fname j)) := by
  obtain ⟨ps, ⟨g, t, cs, fuel, p, q, hg, ht, hv, htr, _⟩, _⟩ := h
  obtain rfl := Option.some.inj (gFlds.symm.trans hg)
  obtain rfl := Option.some.inj (gFldsType.symm.trans ht)
  obtain ⟨xs, m, _, hx, hcl, hl, hf⟩ := DataW.trod_array Tryz.underlying68 htr
  obtain ⟨y0, y1, y2, y3, y4, rfl⟩ := five hl
  have e0 := hf 0 (by decide)
  have e1 := hf 1 (by decide)
  have e2 := hf 2 (by decide)
  have e3 := hf 3 (by decide)
  have e4 := hf 4 (by decide)
  rw [cellsStr] at e0 e1 e2 e3 e4
  obtain ⟨s0, g0, r0, _⟩ := DataW.trod_string Tryz.underlying9 (x := y0) e0
  obtain ⟨s1, g1, r1, _⟩ := DataW.trod_string Tryz.underlying9 (x := y1) e1
  obtain ⟨s2, g2, r2, _⟩ := DataW.trod_string Tryz.underlying9 (x := y2) e2
  obtain ⟨s3, g3, r3, _⟩ := DataW.trod_string Tryz.underlying9 (x := y3) e3
  obtain ⟨s4, g4, r4, _⟩ := DataW.trod_string Tryz.underlying9 (x := y4) e4
  have hx1 := congrArg Prod.fst hx
  simp only [Rows.laid_millrace_filter_fields, r0, r1, r2, r3, r4, List.map_cons, List.map_nil, DataW.agg.injEq, List.cons.injEq, DataW.lit.injEq, Lit.string.injEq, and_true] at hx1
  obtain ⟨h0, h1, h2, h3, h4⟩ := hx1
  obtain rfl := str_eq h0.symm
  obtain rfl := str_eq h1.symm
  obtain rfl := str_eq h2.symm
  obtain rfl := str_eq h3.symm
  obtain rfl := str_eq h4.symm
  have key : ∀ (j : Nat) (u : Value), (cs.toList.drop j).take 1 = [u] → W.cell? ⟨2, j, none⟩ = some u := fun j u hu => by
    rw [World.var?_cell hg hv j]
    have := congrArg (·[0]?) hu
    simpa [List.getElem?_take, List.getElem?_drop] using this
  intro j hj
  match j, hj with
  | 0, _ => exact key 0 _ g0
  | 1, _ => exact key 1 _ g1
  | 2, _ => exact key 2 _ g2
  | 3, _ => exact key 3 _ g3
  | 4, _ => exact key 4 _ g4
theorem gRfld : Tryz.prog.globalNamed "millrace/millraceref.fields" = some 0 := by kernel_rfl
theorem gRfldType : (Tryz.prog.globals[0]?).map (·.type) = some 46 := by kernel_rfl
set_option maxRecDepth 100000 in
theorem rfld_of_head {W : World} {r : LL} (h : laidMet Tryz.prog (("millrace/millraceref.fields", Rows.laid_millrace_millraceref_fields) :: r) W) : ∃ b o c, W.cell? ⟨0, 0, none⟩ = some (.slice (some ⟨b, o, none⟩) 5 c) ∧ ∀ j, j < 5 → W.cell? ⟨b, o + j, none⟩ = some (.string (fname j)) := by
  obtain ⟨ps, ⟨g, t, cs, fuel, p, q, hg, ht, hv, htr, _⟩, _⟩ := h
  obtain rfl := Option.some.inj (gRfld.symm.trans hg)
  obtain rfl := Option.some.inj (gRfldType.symm.trans ht)
  rcases open_strs Tryz.underlying46 Tryz.underlying9 cellsStr htr with ⟨_, h0⟩ | ⟨a, len, cap, m, Sx, hcs, _, _, _, hm, hx, hcell⟩
  · cases h0
  · have hx1 := congrArg Prod.fst hx
    simp only [Rows.laid_millrace_millraceref_fields, DataW.slice.injEq] at hx1
    obtain ⟨hx1, hx2⟩ := hx1
    have hlen : len = 5 := by simpa using (congrArg List.length hx1).symm
    subst hlen
    have hm5 : 5 ≤ m := by rw [hm]; split <;> omega
    simp only [show List.range 5 = [0, 1, 2, 3, 4] from rfl, List.map_cons, List.map_nil, List.cons.injEq, DataW.lit.injEq, Lit.string.injEq, and_true] at hx1
    obtain ⟨h0, h1, h2, h3, h4⟩ := hx1
    obtain ⟨b, o, sp⟩ := a
    have c0 := (hcell 0 (by omega)).1
    have c1 := (hcell 1 (by omega)).1
    have c2 := (hcell 2 (by omega)).1
    have c3 := (hcell 3 (by omega)).1
    have c4 := (hcell 4 (by omega)).1
    obtain ⟨l0⟩ := cs
    simp only at hcs
    subst hcs
    have hv0 := World.var?_cell hg hv 0
    have hsp : sp = none := by
      cases sp with
      | none => rfl
      | some z =>
        simp [Addr.add, World.cell?] at c0
        split at c0 <;> cases c0
    subst hsp
    refine ⟨b, o, cap, by simpa using hv0, fun j hj => ?_⟩
    match j, hj with
    | 0, _ => rw [show (fname 0) = Sx 0 from (str_eq h0.symm).symm]; exact c0
    | 1, _ => rw [show (fname 1) = Sx 1 from (str_eq h1.symm).symm]; exact c1
    | 2, _ => rw [show (fname 2) = Sx 2 from (str_eq h2.symm).symm]; exact c2
    | 3, _ => rw [show (fname 3) = Sx 3 from (str_eq h3.symm).symm]; exact c3
    | 4, _ => rw [show (fname 4) = Sx 4 from (str_eq h4.symm).symm]; exact c4
theorem gSyn : Tryz.prog.globalNamed "strconv.ErrSyntax" = some 6 := by kernel_rfl
theorem gSynType : (Tryz.prog.globals[6]?).map (·.type) = some 31 := by kernel_rfl
theorem gRng : Tryz.prog.globalNamed "strconv.ErrRange" = some 7 := by kernel_rfl
theorem gRngType : (Tryz.prog.globals[7]?).map (·.type) = some 31 := by kernel_rfl
theorem mx_of_shape {W : World} (h : W.ShapedOpen Tryz.prog) : ∃ m, W.cell? ⟨3, 0, none⟩ = some (.int .i64 m) :=
  Go.Proofs.cell_of_shapedOpen_int (zero := #[.int .i64 0]) (t := 3) h (of_decide_eq_true (by kernel_rfl)) (by kernel_rfl) rfl (by kernel_rfl) (by kernel_rfl) Tryz.underlying3
/-- What the filters' laws find laid. -/
abbrev laidQ : LL := [("math/bits.deBruijn32tab", Rows.laid_math_bits_deBruijn32tab), ("math/bits.deBruijn64tab", Rows.laid_math_bits_deBruijn64tab), ("internal/strconv.uint64pow10", Rows.laid_internal_strconv_uint64pow10), ("strconv.ErrRange", Rows.laid_strconv_ErrRange), ("strconv.ErrSyntax", Rows.laid_strconv_ErrSyntax), ("millrace/filter.fields", Rows.laid_millrace_filter_fields), ("millrace/millraceref.fields", Rows.laid_millrace_millraceref_fields), ("millrace/millraceref.Fine", Rows.laid_millrace_millraceref_Fine)]
/-- All of it. -/
theorem env_of_laid {W : World} (h : laidMet Tryz.prog laidQ W) (hs : W.ShapedOpen Tryz.prog) : Env W := by
  have h2 := laidMet.tail (laidMet.tail h)
  have h3 := laidMet.tail h2
  have h4 := laidMet.tail h3
  have h5 := laidMet.tail h4
  have h6 := laidMet.tail h5
  have h7 := laidMet.tail h6
  exact ⟨tab_of_head h2, iface_of_head h4 gSyn gSynType Tryz.underlying31, iface_of_head h3 gRng gRngType Tryz.underlying31, mx_of_shape hs, flds_of_head h5, rfld_of_head h6, fine_of_head h7⟩
/-- The cells of a laid table. -/
def laidCells : DataW Unit → Array Value
  | .agg ds => (ds.map fun | .lit (.int k z) => Value.int k z | .lit (.string s) => Value.string ⟨s.toArray⟩ | _ => undef).toArray
  | .slice ds _ => (ds.map fun | .lit (.string s) => Value.string ⟨s.toArray⟩ | _ => undef).toArray
  | .iface _ (.ptr (.agg [.lit (.string s)])) => #[Value.string ⟨s.toArray⟩]
  | _ => #[]
end Go.Proofs.YthkccohigoejgaaGreatDoor

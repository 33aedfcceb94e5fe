/-
  The frame of the books' laws: what the listed variables give; slices of texts, bools, bytes that came in.
-/
import Derived.Test.YticifnegoacopaaGreatDoorFrameP
import Derived.Test.YticifnegoacopaaGreatDoorCards
import Derived.Test.YticifnegoacopaaGreatDoorTie
import Derived.Test.YticifnegoacopaaGreatDoorBokE
import Derived.Test.YticifnegoacopaaGreatDoorBokWA
import Derived.Lib.LaidTab
import Derived.Stop.LaidErr
import Derived.Deep.Fields
import Derived.Deep.Strs
import Derived.Deep.Grids
import Derived.Shelf.Vars
import Derived.Deep.DeepWitnessRowRef
import Derived.ChangeMaps5
namespace Go.Proofs.YticifnegoacopaaGreatDoor
open Go.ChangeShapes Go.WideShapes Go.ChangeAt Go.RowKit Go.Deep

/-! The listed variables. -/
abbrev LL := List (String × DataW Unit)
theorem tab_type : (Tryz.prog.globals[6]?).map (·.type) = some 179 := by kernel_rfl
set_option maxRecDepth 100000 in
theorem tab_datum : (Rows.laid_internal_strconv_uint64pow10 : DataW Unit) = Lib.tabData .u64 Lib.pow10Tab := by rfl
theorem tab_of_head {W : World} {r : LL} (h : laidMet Tryz.prog (("internal/strconv.uint64pow10", Rows.laid_internal_strconv_uint64pow10) :: r) W) : Tab W := by
  rw [tab_datum] at h
  exact Lib.tabIs_of_head tab_named tab_type Tryz.underlying179 Tryz.underlying136 (by kernel_rfl) (by kernel_rfl) h
/-- A variable that holds an interface value. -/
theorem iface_of_head {W : World} {n nm : String} {d : DataW Unit} {r : LL} {g ti : Nat} {ms : Array (String × TypeId)} (h : laidMet Tryz.prog ((n, .iface nm d) :: r) W) (hg : Tryz.prog.globalNamed n = some g) (ht : (Tryz.prog.globals[g]?).map (·.type) = some ti) (hi : Tryz.prog.underlying ti = some (.interface ms)) : ∃ tp p, W.cell? ⟨g, 0, none⟩ = some (.iface tp p) := by
  obtain ⟨ps, ⟨g0, t0, cs0, f0, p0, q0, hg0, ht0, hv0, hd0, _, e0⟩, _, hrows⟩ := h
  obtain rfl := Option.some.inj (hg.symm.trans hg0)
  obtain rfl := Option.some.inj (ht.symm.trans ht0)
  obtain ⟨f', u, v, hcs, _, _⟩ := iface_of_trod hi hd0
  obtain ⟨l0⟩ := cs0
  simp only at hcs
  subst hcs
  exact ⟨u, v, by simpa using World.var?_cell hg0 hv0 0⟩
theorem gSyn : Tryz.prog.globalNamed "strconv.ErrSyntax" = some 1 := by kernel_rfl
theorem gSynType : (Tryz.prog.globals[1]?).map (·.type) = some 35 := by kernel_rfl
theorem gRng : Tryz.prog.globalNamed "strconv.ErrRange" = some 2 := by kernel_rfl
theorem gRngType : (Tryz.prog.globals[2]?).map (·.type) = some 35 := by kernel_rfl
theorem mx_of_shape {W : World} (h : W.ShapedOpen Tryz.prog) : ∃ m, W.cell? ⟨0, 0, none⟩ = some (.int .i64 m) :=
  Go.Proofs.cell_of_shapedOpen_int (zero := #[.int .i64 0]) (t := 3) h (of_decide_eq_true (by kernel_rfl)) (by kernel_rfl) rfl (by kernel_rfl) (by kernel_rfl) Tryz.underlying3
/-- What BookPlays finds laid. -/
abbrev laidB : LL := [("math/bits.deBruijn32tab", Rows.laid_math_bits_deBruijn32tab), ("math/bits.deBruijn64tab", Rows.laid_math_bits_deBruijn64tab), ("internal/strconv.uint64pow10", Rows.laid_internal_strconv_uint64pow10), ("unicode/utf8.acceptRanges", Rows.laid_unicode_utf8_acceptRanges), ("unicode/utf8.first", Rows.laid_unicode_utf8_first)]
theorem tab_of_laidB {W : World} (h : laidMet Tryz.prog laidB W) : Tab W := tab_of_head (laidMet.tail (laidMet.tail h))
/-- What BookOpens finds laid. -/
abbrev laidO : LL := [("math/bits.deBruijn32tab", Rows.laid_math_bits_deBruijn32tab), ("math/bits.deBruijn64tab", Rows.laid_math_bits_deBruijn64tab), ("internal/strconv.uint64pow10", Rows.laid_internal_strconv_uint64pow10), ("unicode/utf8.acceptRanges", Rows.laid_unicode_utf8_acceptRanges), ("strconv.ErrRange", Rows.laid_strconv_ErrRange), ("strconv.ErrSyntax", Rows.laid_strconv_ErrSyntax), ("unicode/utf8.first", Rows.laid_unicode_utf8_first)]
theorem env_of_laidO {W : World} (h : laidMet Tryz.prog laidO W) (hs : W.ShapedOpen Tryz.prog) : Env W := by
  have h2 := laidMet.tail (laidMet.tail h)
  have h3 := laidMet.tail (laidMet.tail h2)
  have h4 := laidMet.tail h3
  exact ⟨tab_of_head h2, iface_of_head h4 gSyn gSynType Tryz.underlying35, iface_of_head h3 gRng gRngType Tryz.underlying35, mx_of_shape hs⟩
theorem cellsStr : Tryz.prog.cellsOf 9 = 1 := by kernel_rfl
theorem cellsBool : Tryz.prog.cellsOf 4 = 1 := by kernel_rfl
theorem cellsU8 : Tryz.prog.cellsOf 5 = 1 := by kernel_rfl
set_option maxRecDepth 100000 in
theorem strs_of_trod {H : Type} {enc : TypeId × Value → H} {W : World} {base : Nat} {v : Value} {d : DataW H} {ps : List MemPlace} (hok : Value.okWide Tryz.prog W .any base 22 v) (h : DataW.Trod enc Tryz.prog W 0 (fun _ => true) true 22 v d ps) :
    ∃ (n : Nat) (T : Nat → ByteArray), StrsAt W v n T := by
  obtain ⟨a, len, cap, rfl⟩ := okWide_slice Tryz.underlying22 hok
  obtain ⟨fuel, hf⟩ := h
  rcases open_strs Tryz.underlying22 Tryz.underlying9 cellsStr hf with ⟨hcs, _⟩ | ⟨a', len', cap', m, Sx, hcs, _, hl, _, hm, _, hcell⟩
  · simp [Value.cells] at hcs
    obtain ⟨rfl, rfl, rfl⟩ := hcs
    exact ⟨0, fun _ => ⟨#[]⟩, none, 0, rfl, fun h => absurd h (by decide)⟩
  · simp [Value.cells] at hcs
    obtain ⟨rfl, rfl, rfl⟩ := hcs
    have hlm : len ≤ m := by rw [hm]; split <;> omega
    refine ⟨len, Sx, some a', cap, rfl, fun h0 => ?_⟩
    obtain ⟨b, o, sp⟩ := a'
    have c0 := (hcell 0 (by omega)).1
    have hsp : sp = none := by
      cases sp with
      | none => rfl
      | some z =>
        simp [Addr.add, World.cell?] at c0
        split at c0 <;> cases c0
    subst hsp
    exact ⟨b, o, rfl, fun j hj => by have h9 := (hcell j (by omega)).1; rwa [addr_add] at h9⟩
set_option maxRecDepth 100000 in
theorem bools_of_trod {H : Type} {enc : TypeId × Value → H} {W : World} {base : Nat} {v : Value} {d : DataW H} {ps : List MemPlace} (hok : Value.okWide Tryz.prog W .any base 24 v) (h : DataW.Trod enc Tryz.prog W 0 (fun _ => true) true 24 v d ps) :
    ∃ (n : Nat) (B : Nat → Bool), BoolsAt W v n B := by
  obtain ⟨a, len, cap, rfl⟩ := okWide_slice Tryz.underlying24 hok
  obtain ⟨fuel, hf⟩ := h
  rcases open_bools Tryz.underlying24 Tryz.underlying4 cellsBool hf with ⟨hcs, _⟩ | ⟨a', len', cap', B, hcs, _, hl, _, _, hcell⟩
  · simp [Value.cells] at hcs
    obtain ⟨rfl, rfl, rfl⟩ := hcs
    exact ⟨0, fun _ => false, none, 0, rfl, fun h => absurd h (by decide)⟩
  · simp [Value.cells] at hcs
    obtain ⟨rfl, rfl, rfl⟩ := hcs
    refine ⟨len, B, some a', cap, rfl, fun h0 => ?_⟩
    obtain ⟨b, o, sp⟩ := a'
    have c0 := hcell 0 (by omega)
    have hsp : sp = none := by
      cases sp with
      | none => rfl
      | some z =>
        simp [Addr.add, World.cell?] at c0
        split at c0 <;> cases c0
    subst hsp
    exact ⟨b, o, rfl, fun j hj => by have h9 := hcell j (by omega); rwa [addr_add] at h9⟩
set_option maxRecDepth 100000 in
theorem bytes_of_trod {H : Type} {enc : TypeId × Value → H} {W : World} {base : Nat} {v : Value} {d : DataW H} {ps : List MemPlace} (hok : Value.okWide Tryz.prog W .any base 25 v) (h : DataW.Trod enc Tryz.prog W 0 (fun _ => true) true 25 v d ps) :
    ∃ x : ByteArray, BytesAt W v x := by
  obtain ⟨a, len, cap, rfl⟩ := okWide_slice Tryz.underlying25 hok
  obtain ⟨fuel, hf⟩ := h
  rcases open_ints Tryz.underlying25 Tryz.underlying5 cellsU8 hf with ⟨hcs, _⟩ | ⟨a', len', cap', zs, hcs, _, hl, hm, hz, _, hcell, hwz⟩
  · simp [Value.cells] at hcs
    obtain ⟨rfl, rfl, rfl⟩ := hcs
    exact ⟨⟨#[]⟩, none, 0, rfl, .inl rfl⟩
  · simp [Value.cells] at hcs hz
    obtain ⟨rfl, rfl, rfl⟩ := hcs
    have hlen : ((zs.take len).map fun n => UInt8.ofNat n.toNat).length = len := by simp; omega
    have hsz : (⟨((zs.take len).map fun n => UInt8.ofNat n.toNat).toArray⟩ : ByteArray).size = len := by
      show (((zs.take len).map fun n => UInt8.ofNat n.toNat).toArray).size = len
      rw [List.size_toArray, hlen]
    refine ⟨⟨((zs.take len).map fun n => UInt8.ofNat n.toNat).toArray⟩, some a', cap, by rw [hsz], ?_⟩
    rcases Nat.eq_zero_or_pos len with h0 | h0
    · exact .inl (by rw [hsz]; exact h0)
    · obtain ⟨b, o, sp⟩ := a'
      have c0 := hcell 0 (by omega)
      have hsp : sp = none := by simpa [Addr.add] using World.cell?_spot c0
      subst hsp
      refine .inr ⟨_, rfl, ?_, fun j u hu => ?_⟩
      · have := cell_lt c0
        simpa [addr_add] using this
      · have hj : j < len := by
          have := (List.getElem?_eq_some_iff.1 hu).1
          rw [Lib.strCells_length, hsz] at this
          exact this
        have hcj := hcell j (by omega)
        rw [hcj]
        simp only [Lib.strCells, List.toList_toArray, List.getElem?_map] at hu
        rw [List.getElem?_eq_getElem (by rw [List.length_take]; omega)] at hu
        rw [← Option.some.inj hu]
        have hb := range_u8 hwz j
        simp only [List.getElem_take]
        have e : zs.getD j 0 = zs[j]'(by omega) := by simp [List.getD, List.getElem?_eq_getElem (show j < zs.length by omega)]
        rw [List.getD_eq_getElem?_getD] at e
        rw [e] at hb
        rw [List.getD_eq_getElem?_getD, e]
        congr 2
        simp only [UInt8.toNat_ofNat']
        omega
/-- The cells of a laid table. -/
def laidCells : DataW Unit → Array Value
  | .agg ds => (ds.flatMap fun | .lit (.int k z) => [Value.int k z] | .agg es => (es.map fun | .lit (.int k z) => Value.int k z | _ => undef) | _ => [undef]).toArray
  | .iface _ (.ptr (.agg [.lit (.string s)])) => #[Value.string ⟨s.toArray⟩]
  | _ => #[]
end Go.Proofs.YticifnegoacopaaGreatDoor

/-
  The frame of BookOpens: a slice of bytes that came in, with its capacity.
-/
import Derived.Test.YticifnegoacopaaGreatDoorBokF
import Derived.Test.YticifnegoacopaaGreatDoorBokOA
namespace Go.Proofs.YticifnegoacopaaGreatDoor
open Go.ChangeShapes Go.WideShapes Go.ChangeAt Go.RowKit Go.Deep

set_option maxRecDepth 100000 in
theorem bytesC_of_trod {H : Type} {enc : TypeId × Value → H} {W : World} {base : Nat} {v : Value} {d : DataW H} {ps : List MemPlace} (hok : Value.okWide Tryz.prog W .any base 25 v) (h : DataW.Trod enc Tryz.prog W 0 (fun _ => true) true 25 v d ps) :
    ∃ (a : Option Addr) (n c : Nat) (x : ByteArray), v = .slice a n c ∧ BytesC W a n c x := by
  obtain ⟨a, len, cap, rfl⟩ := okWide_slice Tryz.underlying25 hok
  obtain ⟨fuel, hf⟩ := h
  rcases open_ints Tryz.underlying25 Tryz.underlying5 cellsU8 hf with ⟨hcs, _⟩ | ⟨a', len', cap', zs, hcs, _, hl, hm, hz, _, hcell, hwz⟩
  · simp [Value.cells] at hcs
    obtain ⟨rfl, rfl, rfl⟩ := hcs
    exact ⟨none, 0, 0, ⟨#[]⟩, rfl, ⟨none, 0, rfl, .inl rfl⟩, rfl, Nat.le_refl _, fun _ => rfl⟩
  · simp [Value.cells] at hcs hz
    obtain ⟨rfl, rfl, rfl⟩ := hcs
    have hlen : ((zs.take len).map fun n => UInt8.ofNat n.toNat).length = len := by simp; omega
    have hsz : (⟨((zs.take len).map fun n => UInt8.ofNat n.toNat).toArray⟩ : ByteArray).size = len := by
      show (((zs.take len).map fun n => UInt8.ofNat n.toNat).toArray).size = len
      rw [List.size_toArray, hlen]
    refine ⟨some a', len, cap, ⟨((zs.take len).map fun n => UInt8.ofNat n.toNat).toArray⟩, rfl, ⟨some a', cap, by rw [hsz], ?_⟩, hsz.symm, hl, fun e => by cases e⟩
    rcases Nat.eq_zero_or_pos len with h0 | h0
    · exact .inl (by rw [hsz]; exact h0)
    · obtain ⟨b, o, sp⟩ := a'
      have c0 := hcell 0 (by omega)
      have hsp : sp = none := by simpa [Addr.add] using World.cell?_spot c0
      subst hsp
      refine .inr ⟨_, rfl, ?_, fun j u hu => ?_⟩
      · have := cell_lt c0
        simpa [addr_add] using this
      · have hj : j < len := by
          have := (List.getElem?_eq_some_iff.1 hu).1
          rw [Lib.strCells_length, hsz] at this
          exact this
        have hcj := hcell j (by omega)
        rw [hcj]
        simp only [Lib.strCells, List.toList_toArray, List.getElem?_map] at hu
        rw [List.getElem?_eq_getElem (by rw [List.length_take]; omega)] at hu
        rw [← Option.some.inj hu]
        have hb := range_u8 hwz j
        simp only [List.getElem_take]
        have e : zs.getD j 0 = zs[j]'(by omega) := by simp [List.getD, List.getElem?_eq_getElem (show j < zs.length by omega)]
        rw [List.getD_eq_getElem?_getD] at e
        rw [e] at hb
        rw [List.getD_eq_getElem?_getD, e]
        congr 2
        simp only [UInt8.toNat_ofNat']
        omega
end Go.Proofs.YticifnegoacopaaGreatDoor

/-
  item.Text, walked.
-/
import Derived.Test.YtoblcnngahncoaaDoorTxtA
import Derived.Test.YtoblcnngahncoaaDoorTxtL
import Derived.Test.YtoblcnngahncoaaDoorItems
import Derived.Lib.AppendIntMem
import Derived.Lib.ItoaLen
import Derived.Lib.SmallJoins
import Derived.Lib.Join
namespace Go.Proofs.YtoblcnngahncoaaDoor
open Go.RowKit

theorem BldAt.gr {B b : Nat} {bs : List Value} {w w' : World} (h : BldAt B b bs w) (g : Gr w w') : BldAt B b bs w' := by
  have key : ∀ p, Lib.BuilderAt 28 5 B b p bs w → Lib.BuilderAt 28 5 B b p bs w' := by
    intro p h
    have hl := h.lt
    obtain ⟨hB, v, hb, ⟨hn, hv⟩, hne⟩ := h
    refine ⟨hB, v, (g.block hl).trans hb, ⟨hn, ?_⟩, hne⟩
    rcases hv with hv | ⟨q, cap, cur, h1, h2, h3, h4⟩
    · exact .inl hv
    · have hq : q < w.heap.size := by
        rcases Nat.lt_or_ge q w.heap.size with k | k
        · exact k
        · simp [Array.getElem?_eq_none k] at h3
      exact .inr ⟨q, cap, cur, h1, h2, (g.block hq).trans h3, h4⟩
  exact h.imp (key _) (key _)
/-- The table that strconv.Itoa reads. -/
def Tab (w : World) : Prop := Lib.TabIs Tryd.prog w "internal/strconv.uint64pow10" .u64 Lib.pow10Tab
theorem tab_named : Tryd.prog.globalNamed "internal/strconv.uint64pow10" = some 0 := by kernel_rfl
theorem Tab.gr {w w' : World} (h : Tab w) (g : Gr w w') : Tab w' := Go.Joins.tab_stays tab_named h g (Nat.le_refl _)
def numS (n : Int) : ByteArray := ⟨(Lib.itoa n).toArray⟩
theorem itoa_g (n : Int) (hn : Bd n) (w : World) (h : Tab w) : Calls Tryd.prog 8 #[.int .i64 n] w fun e w' => e = .returned (.string (numS n)) ∧ Gr w w' :=
  (Tryd.strconv_Itoa n hn.1 hn.2 w h).mono fun e w' ⟨h1, k, os, h2⟩ => ⟨h1, by rw [h2]; exact Lib.below_grow _ w (Nat.le_refl _) k os⟩
theorem numS_size (n : Int) : (numS n).size = (Lib.itoa n).length := by simp [numS, ByteArray.size]
theorem numS_cells (n : Int) : Lib.strCells (numS n) = Lib.byteCells (Lib.itoa n) := by rw [Lib.strCells_eq]; simp [numS]
theorem u8_blank : Lib.byteCells [32] = [.int .u8 32] := rfl
theorem u8_line : Lib.byteCells [10] = [.int .u8 10] := rfl
/-- The numbers of a packet. -/
def Itm.nums (x : Itm) : List Int := [x.t, x.len, x.flow, x.band, x.mark]
/-- The text of the first so many numbers. -/
def partOf (ns : List Int) : Nat → List UInt8
  | 0 => []
  | j + 1 => partOf ns j ++ (if j = 0 then [] else [32]) ++ Lib.itoa (ns.getD j 0)
theorem part_first (T : List UInt8) (ns : List Int) : Lib.byteCells (T ++ partOf ns 0) ++ Lib.strCells (numS (ns.getD 0 0)) = Lib.byteCells (T ++ partOf ns 1) := by
  rw [numS_cells, ← Lib.byteCells_append]
  simp [partOf]
theorem part_next (T : List UInt8) (ns : List Int) (j : Nat) : (Lib.byteCells (T ++ partOf ns (j + 1)) ++ [.int .u8 32]) ++ Lib.strCells (numS (ns.getD (j + 1) 0)) = Lib.byteCells (T ++ partOf ns (j + 2)) := by
  rw [numS_cells, ← u8_blank, ← Lib.byteCells_append, ← Lib.byteCells_append]
  congr 1
  show (T ++ partOf ns (j + 1) ++ [32]) ++ Lib.itoa (ns.getD (j + 1) 0) = T ++ (partOf ns (j + 1) ++ (if j + 1 = 0 then [] else [32]) ++ Lib.itoa (ns.getD (j + 1) 0))
  rw [if_neg (by omega)]
  simp
def lineOf (x : Itm) : List UInt8 := partOf x.nums 5 ++ [10]
def textOf (l : List Itm) : List UInt8 := (l.map lineOf).flatten
theorem partOf_len (ns : List Int) (hb : ∀ i, Bd (ns.getD i 0)) : ∀ j, (partOf ns j).length ≤ 22 * j := by
  intro j
  induction j with
  | zero => exact Nat.le_refl _
  | succ j ih =>
    rw [partOf, List.length_append, List.length_append]
    have h1 := Lib.itoa_length_le (ns.getD j 0) (hb j).1 (hb j).2
    generalize Lib.itoa (ns.getD j 0) = z at *
    split
    · simp; omega
    · simp; omega
theorem textOf_snoc (l : List Itm) (x : Itm) : textOf (l ++ [x]) = textOf l ++ lineOf x := by simp [textOf]
def Itm.Bds (x : Itm) : Prop := ∀ i, Bd (x.nums.getD i 0)
theorem textOf_len : ∀ (l : List Itm), (∀ x ∈ l, x.Bds) → (textOf l).length ≤ 111 * l.length := by
  intro l
  induction l with
  | nil => intro _; exact Nat.le_refl _
  | cons x r ih =>
    intro h
    have h1 := ih (fun y hy => h y (List.mem_cons_of_mem _ hy))
    have h2 := partOf_len x.nums (h x (List.mem_cons_self ..)) 5
    have h3 : textOf (x :: r) = lineOf x ++ textOf r := by simp [textOf]
    rw [h3, List.length_append]
    unfold lineOf
    simp
    omega
theorem Items.any {w : World} {v : Value} {l : List Itm} (h : Items w v l) : ∃ a cap, v = .slice a l.length cap ∧ Hid (0 < l.length → ∃ b off, a = some ⟨b, off, none⟩ ∧ ∀ i, i < l.length → ItemAt w b (off + i * 5) (l.getD i .zero)) := by
  rcases h with ⟨a, cap, rfl, rfl⟩ | ⟨b, off, cap, rfl, _, _, h4⟩
  · exact ⟨a, cap, rfl, Lib.hid fun h => absurd h (by simp)⟩
  · exact ⟨_, cap, rfl, Lib.hid fun _ => ⟨b, off, rfl, h4⟩⟩
theorem idx0 (v0 v1 v2 v3 v4 : Value) (w : World) : Sem.run Tryd.prog (Instr.index 31 (.agg #[v0, v1, v2, v3, v4]) (.int .i64 0)) w = .ok v0 w := by kernel_rfl
theorem idx1 (v0 v1 v2 v3 v4 : Value) (w : World) : Sem.run Tryd.prog (Instr.index 31 (.agg #[v0, v1, v2, v3, v4]) (.int .i64 1)) w = .ok v1 w := by kernel_rfl
theorem idx2 (v0 v1 v2 v3 v4 : Value) (w : World) : Sem.run Tryd.prog (Instr.index 31 (.agg #[v0, v1, v2, v3, v4]) (.int .i64 2)) w = .ok v2 w := by kernel_rfl
theorem idx3 (v0 v1 v2 v3 v4 : Value) (w : World) : Sem.run Tryd.prog (Instr.index 31 (.agg #[v0, v1, v2, v3, v4]) (.int .i64 3)) w = .ok v3 w := by kernel_rfl
theorem idx4 (v0 v1 v2 v3 v4 : Value) (w : World) : Sem.run Tryd.prog (Instr.index 31 (.agg #[v0, v1, v2, v3, v4]) (.int .i64 4)) w = .ok v4 w := by kernel_rfl
set_option maxRecDepth 100000 in
set_option maxHeartbeats 8000000 in
theorem text_any {v : Value} {l : List Itm} (w : World) (hx : Items w v l) (hn : l.length ≤ 150) (hb : ∀ x ∈ l, x.Bds) (ht : Tab w) :
    Calls Tryd.prog 4 #[v] w fun e w' => e = .returned (.string ⟨(textOf l).toArray⟩) ∧ Gr w w' := by
  obtain ⟨la, lc, rfl, HCE⟩ := hx.any
  have HN := Lib.hid hn
  have HB := Lib.hid hb
  have HT := Lib.hid ht
  clear hx hn hb ht
  go_enter Tryd.func4, Tryd.ntmps4
  go_upto_region 2 with fail
  obtain ⟨w0, hw0⟩ : ∃ u, u = w.alloc (.cells #[.pointer none, .slice none 0 0] 28) := ⟨_, rfl⟩
  obtain ⟨b, hb⟩ : ∃ u, u = w.heap.size := ⟨_, rfl⟩
  have HA0 : Hid (BldAt b b (Lib.byteCells []) w0) := Lib.hid (by rw [hw0, hb]; exact Lib.fresh_isBuilder _ _ w)
  have HG0 : Hid (Gr w w0 ∧ b ≤ w0.heap.size) := Lib.hid (by rw [hw0, hb]; exact ⟨(Gr.refl _).alloc _, by simp⟩)
  have HBW : Hid (b = w.heap.size) := Lib.hid hb
  have HTR := Lib.hid (fun u u' (g : Gr w u) (h : Below b u u') => (show Gr w u' from by rw [HBW.out] at h; exact Below.trans g h))
  have HSZ := Lib.hid (fun u (g : Gr w u) => (show Gr w u ∧ b ≤ u.heap.size from ⟨g, by rw [HBW.out]; exact g.size⟩))
  rw [← hw0, ← hb]
  clear hw0 hb
  go_wp2
  go_loopw [10] (fun s10 wr => ∃ (i : Nat), i ≤ l.length ∧ s10 = .int .i64 (i : Int) ∧ Hid (BldAt b b (Lib.byteCells (textOf (l.take i))) wr) ∧ Hid (Gr w wr ∧ b ≤ wr.heap.size)) (fun s _ => l.length - (intOf s).toNat)
  case atStart => exact ⟨0, Nat.zero_le _, rfl, HA0, HG0⟩
  case round =>
    obtain ⟨i, hi, rfl, HA, HG⟩ := hrel
    by_cases hlt : i < l.length
    · have i0 : (0 : Int) ≤ (i : Int) := by omega
      have i1 : (i : Int) < (l.length : Int) := by omega
      obtain ⟨lb, lo, rfl, hcell⟩ := HCE.out (by omega)
      have HWI := Lib.hid (show wrap64 ((i : Int) + 1) = (i : Int) + 1 from by have := HN.out; unfold wrap64; omega)
      obtain ⟨x, hx⟩ : ∃ x, x = l.getD i .zero := ⟨_, rfl⟩
      have HTK := Lib.hid (show l.take (i + 1) = l.take i ++ [x] from by rw [hx, List.getD_eq_getElem?_getD, List.getElem?_eq_getElem hlt, List.take_add_one, List.getElem?_eq_getElem hlt]; rfl)
      have HXB : Hid x.Bds := Lib.hid (HB.out x (by rw [hx, List.getD_eq_getElem?_getD, List.getElem?_eq_getElem hlt]; exact List.getElem_mem hlt))
      have HLEN := Lib.hid (show (textOf (l.take i)).length ≤ 16650 from by have h1 := textOf_len (l.take i) (fun y hy => HB.out y (List.mem_of_mem_take hy)); have h2 := HN.out; rw [List.length_take] at h1; omega)
      have hel := (hcell i hlt).gr HG.out.1
      rw [← hx] at hel
      clear hcell hx
      obtain ⟨c0, c1, c2, c3, c4⟩ := hel
      go_upto_region 6 with fail
      clear c0 c1 c2 c3 c4
      obtain ⟨w1, hw1⟩ : ∃ u, u = wr.alloc (.cells #[.int .i64 x.t, .int .i64 x.len, .int .i64 x.flow, .int .i64 x.band, .int .i64 x.mark] 30) := ⟨_, rfl⟩
      have HA1 : Hid (BldAt b b (Lib.byteCells (textOf (l.take i) ++ partOf x.nums 0)) w1) := Lib.hid (by rw [hw1]; unfold partOf; rw [List.append_nil]; exact HA.out.gr ((Gr.refl _).alloc _))
      have HG1 : Hid (Gr w w1 ∧ b ≤ w1.heap.size) := Lib.hid (by have h1 : Gr wr w1 := (by rw [hw1]; exact (Gr.refl _).alloc _); exact ⟨HG.out.1.trans h1, Nat.le_trans HG.out.2 h1.size⟩)
      rw [← hw1]
      clear hw1 HA HG
      go_loopw [25] (fun s25 wl => ∃ (j : Nat), j ≤ 5 ∧ s25 = .int .i64 (j : Int) ∧ Hid (BldAt b b (Lib.byteCells (textOf (l.take i) ++ partOf x.nums j)) wl) ∧ Hid (Gr w wl ∧ b ≤ wl.heap.size)) (fun s _ => 5 - (intOf s).toNat)
      case atStart => exact ⟨0, by omega, rfl, HA1, HG1⟩
      case round =>
        clear HA1 HG1
        obtain ⟨j, hj, rfl, HA, HG⟩ := hrel
        by_cases hj5 : j < 5
        · have HPL := Lib.hid (partOf_len x.nums HXB.out j)
          have HJ := Lib.hid hj5
          have HIL := Lib.hid (Lib.itoa_length_le (x.nums.getD j 0) (HXB.out j).1 (HXB.out j).2)
          have HBN := Lib.hid (HXB.out j)
          have HTB := Lib.hid (HT.out.gr HG.out.1)
          obtain rfl | rfl | rfl | rfl | rfl : j = 0 ∨ j = 1 ∨ j = 2 ∨ j = 3 ∨ j = 4 := by omega
          · go_wp2
            rw [idx0]
            go_wp2_with (first
              | (go_at_call 8; refine (itoa_g x.t HBN.out _ HTB.out).mono ?_; rintro e w3 ⟨rfl, hg3⟩; have HA3 := Lib.hid (HA.out.gr hg3); have HG3 := Lib.hid (HSZ.out _ (HG.out.1.trans hg3)); clear hg3)
              | (go_at_call 7; refine (writeString_any b b _ (numS x.t) _ HA3.out (by rw [Lib.byteCells_length, List.length_append, numS_size]; have h1 := HLEN.out; have h2 := HPL.out; have h3 := HIL.out; change (Lib.itoa x.t).length ≤ 21 at h3; omega) HG3.out.2).mono ?_; rintro e w4 ⟨rfl, hb4, hl4⟩; have HA4 := Lib.hid (show BldAt b b (Lib.byteCells (textOf (l.take i) ++ partOf x.nums 1)) w4 from by rw [← part_first]; exact hb4); have HG4 := Lib.hid (HSZ.out _ (HTR.out _ _ HG3.out.1 hl4)); clear hb4 hl4))
            go_roundw
            case measure => simp [intOf]
            case rel => exact ⟨1, by omega, rfl, HA4, HG4⟩
          · go_wp2
            rw [idx1]
            go_wp2_with (first
              | (go_at_call 6; refine (writeByte_any b b _ 32 _ HA.out (by rw [Lib.byteCells_length, List.length_append]; have h1 := HLEN.out; have h2 := HPL.out; omega) HG.out.2).mono ?_; rintro e w2 ⟨rfl, hb2, hl2⟩; have HA2 := Lib.hid hb2; have HG2 := Lib.hid (HSZ.out _ (HTR.out _ _ HG.out.1 hl2)); clear hb2 hl2)
              | (go_at_call 8; refine (itoa_g x.len HBN.out _ (HT.out.gr HG2.out.1)).mono ?_; rintro e w3 ⟨rfl, hg3⟩; have HA3 := Lib.hid (HA2.out.gr hg3); have HG3 := Lib.hid (HSZ.out _ (HG2.out.1.trans hg3)); clear hg3)
              | (go_at_call 7; refine (writeString_any b b _ (numS x.len) _ HA3.out (by rw [List.length_append, Lib.byteCells_length, List.length_append, numS_size]; have h1 := HLEN.out; have h2 := HPL.out; have h3 := HIL.out; change (Lib.itoa x.len).length ≤ 21 at h3; simp; omega) HG3.out.2).mono ?_; rintro e w4 ⟨rfl, hb4, hl4⟩; have HA4 := Lib.hid (show BldAt b b (Lib.byteCells (textOf (l.take i) ++ partOf x.nums 2)) w4 from by rw [← part_next]; exact hb4); have HG4 := Lib.hid (HSZ.out _ (HTR.out _ _ HG3.out.1 hl4)); clear hb4 hl4))
            go_roundw
            case measure => simp [intOf]
            case rel => exact ⟨2, by omega, rfl, HA4, HG4⟩
          · go_wp2
            rw [idx2]
            go_wp2_with (first
              | (go_at_call 6; refine (writeByte_any b b _ 32 _ HA.out (by rw [Lib.byteCells_length, List.length_append]; have h1 := HLEN.out; have h2 := HPL.out; omega) HG.out.2).mono ?_; rintro e w2 ⟨rfl, hb2, hl2⟩; have HA2 := Lib.hid hb2; have HG2 := Lib.hid (HSZ.out _ (HTR.out _ _ HG.out.1 hl2)); clear hb2 hl2)
              | (go_at_call 8; refine (itoa_g x.flow HBN.out _ (HT.out.gr HG2.out.1)).mono ?_; rintro e w3 ⟨rfl, hg3⟩; have HA3 := Lib.hid (HA2.out.gr hg3); have HG3 := Lib.hid (HSZ.out _ (HG2.out.1.trans hg3)); clear hg3)
              | (go_at_call 7; refine (writeString_any b b _ (numS x.flow) _ HA3.out (by rw [List.length_append, Lib.byteCells_length, List.length_append, numS_size]; have h1 := HLEN.out; have h2 := HPL.out; have h3 := HIL.out; change (Lib.itoa x.flow).length ≤ 21 at h3; simp; omega) HG3.out.2).mono ?_; rintro e w4 ⟨rfl, hb4, hl4⟩; have HA4 := Lib.hid (show BldAt b b (Lib.byteCells (textOf (l.take i) ++ partOf x.nums 3)) w4 from by rw [← part_next]; exact hb4); have HG4 := Lib.hid (HSZ.out _ (HTR.out _ _ HG3.out.1 hl4)); clear hb4 hl4))
            go_roundw
            case measure => simp [intOf]
            case rel => exact ⟨3, by omega, rfl, HA4, HG4⟩
          · go_wp2
            rw [idx3]
            go_wp2_with (first
              | (go_at_call 6; refine (writeByte_any b b _ 32 _ HA.out (by rw [Lib.byteCells_length, List.length_append]; have h1 := HLEN.out; have h2 := HPL.out; omega) HG.out.2).mono ?_; rintro e w2 ⟨rfl, hb2, hl2⟩; have HA2 := Lib.hid hb2; have HG2 := Lib.hid (HSZ.out _ (HTR.out _ _ HG.out.1 hl2)); clear hb2 hl2)
              | (go_at_call 8; refine (itoa_g x.band HBN.out _ (HT.out.gr HG2.out.1)).mono ?_; rintro e w3 ⟨rfl, hg3⟩; have HA3 := Lib.hid (HA2.out.gr hg3); have HG3 := Lib.hid (HSZ.out _ (HG2.out.1.trans hg3)); clear hg3)
              | (go_at_call 7; refine (writeString_any b b _ (numS x.band) _ HA3.out (by rw [List.length_append, Lib.byteCells_length, List.length_append, numS_size]; have h1 := HLEN.out; have h2 := HPL.out; have h3 := HIL.out; change (Lib.itoa x.band).length ≤ 21 at h3; simp; omega) HG3.out.2).mono ?_; rintro e w4 ⟨rfl, hb4, hl4⟩; have HA4 := Lib.hid (show BldAt b b (Lib.byteCells (textOf (l.take i) ++ partOf x.nums 4)) w4 from by rw [← part_next]; exact hb4); have HG4 := Lib.hid (HSZ.out _ (HTR.out _ _ HG3.out.1 hl4)); clear hb4 hl4))
            go_roundw
            case measure => simp [intOf]
            case rel => exact ⟨4, by omega, rfl, HA4, HG4⟩
          · go_wp2
            rw [idx4]
            go_wp2_with (first
              | (go_at_call 6; refine (writeByte_any b b _ 32 _ HA.out (by rw [Lib.byteCells_length, List.length_append]; have h1 := HLEN.out; have h2 := HPL.out; omega) HG.out.2).mono ?_; rintro e w2 ⟨rfl, hb2, hl2⟩; have HA2 := Lib.hid hb2; have HG2 := Lib.hid (HSZ.out _ (HTR.out _ _ HG.out.1 hl2)); clear hb2 hl2)
              | (go_at_call 8; refine (itoa_g x.mark HBN.out _ (HT.out.gr HG2.out.1)).mono ?_; rintro e w3 ⟨rfl, hg3⟩; have HA3 := Lib.hid (HA2.out.gr hg3); have HG3 := Lib.hid (HSZ.out _ (HG2.out.1.trans hg3)); clear hg3)
              | (go_at_call 7; refine (writeString_any b b _ (numS x.mark) _ HA3.out (by rw [List.length_append, Lib.byteCells_length, List.length_append, numS_size]; have h1 := HLEN.out; have h2 := HPL.out; have h3 := HIL.out; change (Lib.itoa x.mark).length ≤ 21 at h3; simp; omega) HG3.out.2).mono ?_; rintro e w4 ⟨rfl, hb4, hl4⟩; have HA4 := Lib.hid (show BldAt b b (Lib.byteCells (textOf (l.take i) ++ partOf x.nums 5)) w4 from by rw [← part_next]; exact hb4); have HG4 := Lib.hid (HSZ.out _ (HTR.out _ _ HG3.out.1 hl4)); clear hb4 hl4))
            go_roundw
            case measure => simp [intOf]
            case rel => exact ⟨5, by omega, rfl, HA4, HG4⟩
        · obtain rfl : j = 5 := by omega
          have HPL := Lib.hid (partOf_len x.nums HXB.out 5)
          go_wp2_with (go_at_call 6; refine (writeByte_any b b _ 10 _ HA.out (by rw [Lib.byteCells_length, List.length_append]; have h1 := HLEN.out; have h2 := HPL.out; omega) HG.out.2).mono ?_; rintro e w2 ⟨rfl, hb2, hl2⟩; have HA2 := Lib.hid (show BldAt b b (Lib.byteCells (textOf (l.take (i + 1)))) w2 from by rw [HTK.out, textOf_snoc]; unfold lineOf; rw [← List.append_assoc, Lib.byteCells_append _ [10], u8_line]; exact hb2); have HG2 := Lib.hid (HSZ.out _ (HTR.out _ _ HG.out.1 hl2)); clear hb2 hl2)
          rw [HWI.out]
          go_roundw
          case measure => simp [intOf]; omega
          case rel => exact ⟨i + 1, by omega, by go_num, HA2, HG2⟩
    · obtain rfl : i = l.length := by omega
      have i1 : ¬ (l.length : Int) < (l.length : Int) := by omega
      have HA9 := HA
      rw [List.take_length] at HA9
      go_wp2_with (go_at_call 9; refine (Tryd.Builder_String_any b b (textOf l) _ HA9.out HG.out.2).mono ?_; rintro e w9 ⟨rfl, hb9⟩; have HG9 := Lib.hid hb9; clear hb9)
      go_ret
      exact ⟨rfl, by have h1 := HG.out.1; have h2 := HG9.out; rw [HBW.out] at h2; exact Below.trans h1 h2⟩
end Go.Proofs.YtoblcnngahncoaaDoor

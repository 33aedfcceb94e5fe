/-
  The reference's text of packets: millraceref.Told, millraceref.ItemText, walked.
-/
import Derived.Test.YtoblcnngahncoaaDoorTxtB
import Derived.Test.YtoblcnngahncoaaDoorRow
namespace Go.Proofs.YtoblcnngahncoaaDoor
open Go.RowKit

theorem info_strE : (Tryd.prog.info? 9).map (fun i => (i.zero, i.size, i.bytes)) = some (some (.string ⟨#[]⟩), 1, 16) := by kernel_rfl
def isStr (v : Value) : Prop := ∃ x, v = Value.string x
/-- v is a slice of the call's own that holds the strings xs. -/
def StrRow (w : World) (v : Value) (xs : List ByteArray) : Prop := Row 9 1 isStr w v xs.length (xs.map fun x => Value.string x)
theorem StrRow.nil (w : World) : StrRow w (.slice none 0 0) [] := Row.nil _ _ _ w
theorem StrRow.gr {w w' : World} {v : Value} {xs : List ByteArray} (h : StrRow w v xs) (k : Gr w w') : StrRow w' v xs := Row.gr h k
theorem wpList_append_strR {ops : Array Oper} {rest : List Oper} {o : Oper} {a : Act} {Q : Exit → Act → World → Prop} {w : World} (hgd : o.guard = none) (s x : Operand) (t : TypeId)
    (ho : o.op = .call { callee := .builtin .append, args := #[s, x], argTypes := #[t, t] }) (ht : Tryd.prog.underlying t = some (.slice 9)) (v : Value) (xs : List ByteArray) (y : ByteArray) (hs : a.eval s = v) (h : StrRow w v xs) (ad : Addr) (c : Nat) (hx : a.eval x = .slice (some ad) 1 c)
    (hy : w.cell? ad = some (Value.string y)) (hn : xs.length ≤ 1000000)
    (hK : ∀ v' w', StrRow w' v' (xs ++ [y]) → w.grownBy w' v.ownBlock → (∀ g, v'.ownBlock = some g → v.ownBlock = some g ∨ w.heap.size ≤ g) → wpList Tryd.prog ops Q rest (a.put o.dst v') w') : wpList Tryd.prog ops Q (o :: rest) a w := by
  obtain ⟨i0, hi, hz0, hz1, hz2⟩ := info_parts info_strE
  refine wpList_append_row hgd s x t ho i0 (.string ⟨#[]⟩) 16 ht hi hz0 hz1 hz2 rfl ?_ hs h ad c hx [Value.string y] rfl ?_ ?_ ?_ hn (by decide) ?_
  · intro u hu
    simp [Value.cells] at hu
    exact ⟨_, hu⟩
  · intro j u hj
    match j, hj with
    | 0, hj => simp at hj; subst hj; simpa [Addr.add] using hy
    | j + 1, hj => simp at hj
  · intro u hu; simp at hu; subst hu; rfl
  · intro u hu; simp at hu; exact ⟨_, hu⟩
  · intro v' w' h1 h2 h3
    exact hK v' w' (by unfold StrRow; simpa using h1) h2 h3

/-- So far: the row of texts, no cell of the caller's touched. -/
structure Toldst (w wr : World) (out : Value) (ns : List Int) (j : Nat) : Prop where
  row : StrRow wr out ((ns.take j).map numS)
  gr : Gr w wr
  age : ∀ g, out.ownBlock = some g → w.heap.size ≤ g
theorem Toldst.to {w wr u : World} {out : Value} {ns : List Int} {j : Nat} (h : Toldst w wr out ns j) (g : Gr wr u) : Toldst w u out ns j := ⟨h.row.gr g, h.gr.trans g, h.age⟩
theorem Toldst.next {w wr u : World} {out out' : Value} {ns : List Int} {j : Nat} {x : Int} (h : Toldst w wr out ns j) (hx : ns[j]? = some x) (hr : StrRow u out' ((ns.take j).map numS ++ [numS x])) (hg : wr.grownBy u out.ownBlock) (hb : ∀ g, out'.ownBlock = some g → out.ownBlock = some g ∨ wr.heap.size ≤ g) : Toldst w u out' ns (j + 1) :=
  ⟨by rw [List.take_add_one, hx]; simpa using hr, gr_grown hg h.gr h.age, fun g hg => by
    rcases hb g hg with h1 | h1
    · exact h.age g h1
    · exact Nat.le_trans h.gr.size h1⟩
theorem join_five (ns : List Int) (h : ns.length = 5) : Lib.join ((ns.map numS).map (·.data.toList)) [32] = partOf ns 5 := by
  match ns, h with
  | [a, b, c, d, e], _ => simp [Lib.join, List.intercalate, partOf, numS]
theorem Tryd.strings_Join_five (ns : List Int) (bk o c : Nat) (w : World) (h : ns.length = 5) (hcells : ∀ (j : Nat) x, (ns.map numS)[j]? = some x → w.cell? ⟨bk, o + j, none⟩ = some (.string x)) (hbk : bk < w.heap.size) (hcap : 5 ≤ c) (hlen : (partOf ns 5).length ≤ 22 * 5) :
    Calls Tryd.prog 13 #[.slice (some ⟨bk, o, none⟩) 5 c, .string ⟨#[32]⟩] w fun e w' => e = .returned (.string ⟨(partOf ns 5).toArray⟩) ∧ Gr w w' := by
  have h1 := Tryd.strings_Join bk o c (ns.map numS) ⟨#[32]⟩ w hcells hbk (by rw [List.length_map, h]; decide) (by rw [List.length_map, h]; exact hcap) (by rw [show (⟨#[32]⟩ : ByteArray).data.toList = [32] from rfl, join_five ns h]; omega)
  rw [List.length_map, h, show (⟨#[32]⟩ : ByteArray).data.toList = [32] from rfl, join_five ns h] at h1
  exact h1
set_option maxRecDepth 100000 in
set_option maxHeartbeats 8000000 in
theorem told_any (ns : List Int) (g off c : Nat) (w : World) (hl : ns.length = 5) (hc : ∀ j, j < 5 → w.cell? ⟨g, off + j, none⟩ = some (.int .i64 (ns.getD j 0))) (hb : ∀ i, Bd (ns.getD i 0)) (ht : Tab w) :
    Calls Tryd.prog 10 #[.slice (some ⟨g, off, none⟩) 5 c] w fun e w' => e = .returned (.string ⟨(partOf ns 5).toArray⟩) ∧ Gr w w' := by
  have HC := Lib.hid hc
  have HL := Lib.hid hl
  have HB := Lib.hid hb
  have HT := Lib.hid ht
  clear hc hl hb ht
  have HT0 : Hid (Toldst w w (.slice none 0 0) ns 0) := Lib.hid ⟨StrRow.nil w, Gr.refl w, fun g hg => by simp [Value.ownBlock] at hg⟩
  go_enter Tryd.func10, Tryd.ntmps10
  go_wp2
  go_loopw [3, 8] (fun s3 s8 wr => ∃ (j : Nat), j ≤ 5 ∧ s8 = .int .i64 (j : Int) ∧ Hid (Toldst w wr s3 ns j)) (fun _ s _ => 5 - (intOf s).toNat)
  case atStart => exact ⟨0, by omega, rfl, HT0⟩
  case round =>
    clear HT0
    obtain ⟨j, hj, rfl, HA⟩ := hrel
    by_cases hj5 : j < 5
    · have j0 : (0 : Int) ≤ (j : Int) := by omega
      have j1 : (j : Int) < 5 := by omega
      have HWI := Lib.hid (show wrap64 ((j : Int) + 1) = (j : Int) + 1 from by unfold wrap64; omega)
      obtain ⟨x, hx⟩ : ∃ x, x = ns.getD j 0 := ⟨_, rfl⟩
      have HX : Hid (ns[j]? = some x) := Lib.hid (by rw [hx, List.getD_eq_getElem?_getD, List.getElem?_eq_getElem (by rw [HL.out]; exact hj5)]; rfl)
      have hel := HA.out.gr.cell (HC.out j hj5)
      have HBX := Lib.hid (HB.out j)
      rw [← hx] at hel HBX
      have HTB := Lib.hid (HT.out.gr HA.out.gr)
      have HLE := Lib.hid hj5
      clear hx
      go_wp2_with (first
        | (go_at_call 8; refine (itoa_g x HBX.out _ HTB.out).mono ?_; rintro e w3 ⟨rfl, hg3⟩; have HA3 := Lib.hid ((HA.out.to hg3).to ((Gr.refl w3).alloc (.cells #[.string (numS x)] 9))); clear hg3)
        | (at_builtin; refine wpList_append_strR rfl _ _ _ (by rfl) (by rfl) _ _ (numS x) (by rfl) HA3.out.row ⟨w3.heap.size, 0, none⟩ 1 (by rfl) (by simp) (by have h1 := HLE.out; have h2 := HL.out; simp; omega) ?_; intro v' w6 hrow hgr hblk; have HA6 := Lib.hid (HA3.out.next HX.out hrow hgr hblk); clear hrow hgr hblk))
      go_roundw
      case measure => simp [intOf]; omega
      case rel => exact ⟨j + 1, by omega, by go_num, HA6⟩
    · obtain rfl : j = 5 := by omega
      have HA5 := HA.out
      have hns : (ns.take 5).map numS = ns.map numS := by rw [List.take_of_length_le (by rw [HL.out]; exact Nat.le_refl _)]
      obtain ⟨g9, o9, c9, rfl, hcap, hmax, hcells⟩ := Row.cells HA5.row (by simp [HL.out])
      have HR := Lib.hid (show ∀ (j : Nat) x, (ns.map numS)[j]? = some x → wr.cell? ⟨g9, o9 + j, none⟩ = some (.string x) from fun j x hj => hcells j _ (by rw [hns, List.getElem?_map, hj]; rfl))
      have HLT := Lib.hid (Row.lt HA5.row (g := g9) rfl)
      have hlen : ((ns.take 5).map numS).length = 5 := by simp [HL.out]
      have HCAP : Hid (5 ≤ c9) := Lib.hid (by rw [hlen] at hcap; exact hcap)
      rw [hlen]
      have HG := Lib.hid HA5.gr
      have HPL := Lib.hid (partOf_len ns HB.out 5)
      clear HA HA5 hcap hmax hcells hns hlen
      go_wp2_with (go_at_call 13; refine (Tryd.strings_Join_five ns g9 o9 c9 wr HL.out HR.out HLT.out HCAP.out HPL.out).mono ?_; rintro e w9 ⟨rfl, hb9⟩; have HG9 := Lib.hid (HG.out.trans hb9); clear hb9)
      go_ret
      exact ⟨rfl, HG9.out⟩

theorem nums_cells (x : Itm) (w : World) (T : TypeId) : ∀ j, j < 5 → (w.alloc (.cells #[.int .i64 x.t, .int .i64 x.len, .int .i64 x.flow, .int .i64 x.band, .int .i64 x.mark] T)).cell? ⟨w.heap.size, 0 + j, none⟩ = some (.int .i64 (x.nums.getD j 0))
  | 0, _ => by simp [Itm.nums]
  | 1, _ => by simp [Itm.nums]
  | 2, _ => by simp [Itm.nums]
  | 3, _ => by simp [Itm.nums]
  | 4, _ => by simp [Itm.nums]
  | j + 5, h => by omega
/-- The text so far. -/
def txS (l : List Itm) : ByteArray := ⟨(textOf l).toArray⟩
theorem txS_snoc (l : List Itm) (x : Itm) : txS l ++ ((⟨(partOf x.nums 5).toArray⟩ : ByteArray) ++ ⟨#[10]⟩) = txS (l ++ [x]) := by
  unfold txS
  rw [textOf_snoc]
  unfold lineOf
  apply ByteArray.ext
  simp
set_option maxRecDepth 100000 in
set_option maxHeartbeats 8000000 in
theorem itemText_any {v : Value} {l : List Itm} (w : World) (hx : Items w v l) (hn : l.length ≤ 150) (hb : ∀ x ∈ l, x.Bds) (ht : Tab w) :
    Calls Tryd.prog 5 #[v] w fun e w' => e = .returned (.string (txS l)) ∧ Gr w w' := by
  obtain ⟨la, lc, rfl, HCE⟩ := hx.any
  have HN := Lib.hid hn
  have HB := Lib.hid hb
  have HT := Lib.hid ht
  clear hx hn hb ht
  go_enter Tryd.func5, Tryd.ntmps5
  go_wp2
  go_loopw [3, 8] (fun s3 s8 wr => ∃ (i : Nat), i ≤ l.length ∧ s8 = .int .i64 (i : Int) ∧ s3 = .string (txS (l.take i)) ∧ Hid (Gr w wr)) (fun _ s _ => l.length - (intOf s).toNat)
  case atStart => exact ⟨0, Nat.zero_le _, rfl, rfl, Lib.hid (Gr.refl w)⟩
  case round =>
    obtain ⟨i, hi, rfl, rfl, HG⟩ := hrel
    by_cases hlt : i < l.length
    · have i0 : (0 : Int) ≤ (i : Int) := by omega
      have i1 : (i : Int) < (l.length : Int) := by omega
      obtain ⟨lb, lo, rfl, hcell⟩ := HCE.out (by omega)
      obtain ⟨x, hx⟩ : ∃ x, x = l.getD i .zero := ⟨_, rfl⟩
      have HTK := Lib.hid (show l.take (i + 1) = l.take i ++ [x] from by rw [hx, List.getD_eq_getElem?_getD, List.getElem?_eq_getElem hlt, List.take_add_one, List.getElem?_eq_getElem hlt]; rfl)
      have HXB : Hid x.Bds := Lib.hid (HB.out x (by rw [hx, List.getD_eq_getElem?_getD, List.getElem?_eq_getElem hlt]; exact List.getElem_mem hlt))
      have hel := (hcell i hlt).gr HG.out
      rw [← hx] at hel
      clear hcell hx
      obtain ⟨c0, c1, c2, c3, c4⟩ := hel
      have HWI := Lib.hid (show wrap64 ((i : Int) + 1) = (i : Int) + 1 from by have := HN.out; unfold wrap64; omega)
      obtain ⟨T, HTX⟩ : ∃ T, Hid (T = txS (l.take i)) := ⟨_, Lib.hid rfl⟩
      rw [← HTX.out]
      go_upto_region 5 with fail
      clear c0 c1 c2 c3 c4
      obtain ⟨w1, hw1⟩ : ∃ u, u = wr.alloc (.cells #[.int .i64 x.t, .int .i64 x.len, .int .i64 x.flow, .int .i64 x.band, .int .i64 x.mark] 30) := ⟨_, rfl⟩
      obtain ⟨b1, hb1⟩ : ∃ u, u = wr.heap.size := ⟨_, rfl⟩
      have d0 : w1.cell? ⟨b1, 0, none⟩ = some (.int .i64 x.t) := by rw [hw1, hb1]; simp
      have d1 : w1.cell? ⟨b1, 1, none⟩ = some (.int .i64 x.len) := by rw [hw1, hb1]; simp
      have d2 : w1.cell? ⟨b1, 2, none⟩ = some (.int .i64 x.flow) := by rw [hw1, hb1]; simp
      have d3 : w1.cell? ⟨b1, 3, none⟩ = some (.int .i64 x.band) := by rw [hw1, hb1]; simp
      have d4 : w1.cell? ⟨b1, 4, none⟩ = some (.int .i64 x.mark) := by rw [hw1, hb1]; simp
      have HG1 : Hid (Gr w w1) := Lib.hid (by rw [hw1]; exact HG.out.alloc _)
      rw [← hw1, ← hb1]
      clear hw1 hb1 HG
      have hlen0 := partOf_len x.nums HXB.out 5
      have hlen1 : ¬ 9223372036854775807 < (partOf x.nums 5).length + 1 := by omega
      have hlen2 : ¬ 9223372036854775807 < T.size + ((partOf x.nums 5).length + 1) := by
        have h1 := textOf_len (l.take i) (fun y hy => HB.out y (List.mem_of_mem_take hy))
        have h2 := HN.out
        have h3 : T.size = (textOf (l.take i)).length := by rw [HTX.out]; simp [txS, ByteArray.size]
        rw [List.length_take] at h1
        omega
      clear hlen0
      go_wp2_with (go_at_call 10; refine (told_any x.nums w1.heap.size 0 5 _ rfl (fun j hj => ?_) HXB.out (HT.out.gr (HG1.out.alloc _))).mono ?_; (exact nums_cells x w1 _ j hj); rintro e w3 ⟨rfl, hg3⟩; have HG3 := Lib.hid ((HG1.out.alloc _).trans hg3); clear hg3)
      rw [HWI.out]
      go_roundw
      case measure => simp [intOf]; omega
      case rel => exact ⟨i + 1, by omega, by go_num, by rw [HTK.out, ← txS_snoc, ← HTX.out], HG3⟩
    · obtain rfl : i = l.length := by omega
      have i1 : ¬ (l.length : Int) < (l.length : Int) := by omega
      go_wp2
      go_ret
      exact ⟨rfl, HG.out⟩
end Go.Proofs.YtoblcnngahncoaaDoor

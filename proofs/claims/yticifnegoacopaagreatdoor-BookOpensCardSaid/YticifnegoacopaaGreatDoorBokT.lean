/-
  Rows of strings that grow; strings.Join; the reference's Told of one number, walked. (As FltXJ, for books.)
-/
import Derived.Test.YticifnegoacopaaGreatDoorRow
import Derived.Test.YticifnegoacopaaGreatDoorBokE
import Derived.Test.YticifnegoacopaaGreatDoorBokJ
import Derived.Deep.DeepCutAuto
import Derived.Deep.CutBlock
import Derived.Lib.Join
import Derived.Lib.ItoaLen
namespace Go.Proofs.YticifnegoacopaaGreatDoor
open Go Go.RowKit

def isStr (v : Value) : Prop := ∃ x, v = Value.string x
theorem info_strE : (Tryz.prog.info? 9).map (fun i => (i.zero, i.size, i.bytes)) = some (some (.string ⟨#[]⟩), 1, 16) := by kernel_rfl
/-- v is a slice that holds the strings xs. -/
def StrRow (w : World) (v : Value) (xs : List ByteArray) : Prop := Row 9 1 isStr w v xs.length (xs.map fun x => Value.string x)
theorem StrRow.nil (w : World) : StrRow w (.slice none 0 0) [] := Row.nil _ _ _ w
theorem StrRow.gr {w w' : World} {v : Value} {xs : List ByteArray} (h : StrRow w v xs) (k : Gr w w') : StrRow w' v xs := Row.gr h k
theorem wpList_append_strR {ops : Array Oper} {rest : List Oper} {o : Oper} {a : Act} {Q : Exit → Act → World → Prop} {w : World} (hgd : o.guard = none) (s x : Operand) (t : TypeId)
    (ho : o.op = .call { callee := .builtin .append, args := #[s, x], argTypes := #[t, t] }) (ht : Tryz.prog.underlying t = some (.slice 9)) (v : Value) (xs : List ByteArray) (y : ByteArray) (hs : a.eval s = v) (h : StrRow w v xs) (ad : Addr) (c : Nat) (hx : a.eval x = .slice (some ad) 1 c)
    (hy : w.cell? ad = some (Value.string y)) (hn : xs.length ≤ 1000000)
    (hK : ∀ v' w', StrRow w' v' (xs ++ [y]) → w.grownBy w' v.ownBlock → (∀ g, v'.ownBlock = some g → v.ownBlock = some g ∨ w.heap.size ≤ g) → wpList Tryz.prog ops Q rest (a.put o.dst v') w') : wpList Tryz.prog ops Q (o :: rest) a w := by
  obtain ⟨i0, hi, hz0, hz1, hz2⟩ := info_parts info_strE
  refine wpList_append_row hgd s x t ho i0 (.string ⟨#[]⟩) 16 ht hi hz0 hz1 hz2 rfl ?_ hs h ad c hx [Value.string y] rfl ?_ ?_ ?_ hn (by decide) ?_
  · intro u hu
    simp [Value.cells] at hu
    exact ⟨_, hu⟩
  · intro j u hj
    match j, hj with
    | 0, hj => simp at hj; subst hj; simpa [Addr.add] using hy
    | j + 1, hj => simp at hj
  · intro u hu; simp at hu; subst hu; rfl
  · intro u hu; simp at hu; exact ⟨_, hu⟩
  · intro v' w' h1 h2 h3
    exact hK v' w' (by unfold StrRow; simpa using h1) h2 h3
/-- So far: the row of texts, no cell of the caller's touched. -/
structure JRow (w wr : World) (out : Value) (xs : List ByteArray) : Prop where
  row : StrRow wr out xs
  gr : Gr w wr
  age : ∀ g, out.ownBlock = some g → w.heap.size ≤ g
theorem JRow.nil (w : World) : JRow w w (.slice none 0 0) [] := ⟨StrRow.nil w, Gr.refl w, fun g hg => by simp [Value.ownBlock] at hg⟩
theorem JRow.on {w wr u : World} {out : Value} {xs : List ByteArray} (h : JRow w wr out xs) (g : Gr wr u) : JRow w u out xs := ⟨h.row.gr g, h.gr.trans g, h.age⟩
theorem JRow.next {w wr u : World} {out out' : Value} {xs : List ByteArray} {x : ByteArray} (h : JRow w wr out xs) (hr : StrRow u out' (xs ++ [x])) (hg : wr.grownBy u out.ownBlock) (hb : ∀ g, out'.ownBlock = some g → out.ownBlock = some g ∨ wr.heap.size ≤ g) : JRow w u out' (xs ++ [x]) :=
  ⟨hr, gr_grown hg h.gr h.age, fun g hg => by
    rcases hb g hg with h1 | h1
    · exact h.age g h1
    · exact Nat.le_trans h.gr.size h1⟩
/-- strings.Join of what was put together. -/
theorem join_row {w : World} {v : Value} {xs : List ByteArray} (h : StrRow w v xs) (h0 : 0 < xs.length) (h1 : xs.length ≤ 1000000) (sep : ByteArray) (hl : (Lib.join (xs.map (·.data.toList)) sep.data.toList).length ≤ 10000000) :
    Calls Tryz.prog 62 #[v, .string sep] w fun e w' => e = .returned (.string ⟨(Lib.join (xs.map (·.data.toList)) sep.data.toList).toArray⟩) ∧ Gr w w' := by
  have hne : 0 < (xs.map fun x => Value.string x).length := by rw [List.length_map]; exact h0
  obtain ⟨g9, o9, c9, rfl, hcap, hmax, hcells⟩ := Row.cells h h0
  exact Tryz.strings_Join g9 o9 c9 xs sep w (fun j x hj => hcells j _ (by rw [List.getElem?_map, hj]; rfl)) (Row.lt h (g := g9) rfl) (by omega) (by omega) (by omega)
def numS (n : Int) : ByteArray := ⟨(Lib.itoa n).toArray⟩
theorem numS_one (n : Int) : (⟨(Lib.join (([numS n] : List ByteArray).map (·.data.toList)) (⟨#[32]⟩ : ByteArray).data.toList).toArray⟩ : ByteArray) = numS n := by
  show (⟨(Lib.join [(numS n).data.toList] [32]).toArray⟩ : ByteArray) = numS n
  rw [Lib.join_one]
theorem join_num {w : World} {v : Value} {n : Int} (hb : Bd n) (h : StrRow w v [numS n]) : Calls Tryz.prog 62 #[v, .string ⟨#[32]⟩] w fun e w' => e = .returned (.string (numS n)) ∧ Gr w w' := by
  have h1 := join_row h (Nat.zero_lt_succ 0) (by rw [List.length_singleton]; decide) ⟨#[32]⟩ (by
    show (Lib.join [(numS n).data.toList] [32]).length ≤ _
    rw [Lib.join_one]
    have := Lib.itoa_length_le n hb.1 hb.2
    show (Lib.itoa n).toArray.toList.length ≤ _
    rw [List.toList_toArray]
    omega)
  rw [numS_one] at h1
  exact h1
set_option maxRecDepth 100000 in
set_option maxHeartbeats 8000000 in
theorem told_one (n : Int) (g off c : Nat) (w : World) (hc : w.cell? ⟨g, off, none⟩ = some (.int .i64 n)) (hb : Bd n) (ht : Tab w) :
    Calls Tryz.prog 44 #[.slice (some ⟨g, off, none⟩) 1 c] w fun e w' => e = .returned (.string (numS n)) ∧ Gr w w' := by
  have HC := Lib.hid hc
  have HB := Lib.hid hb
  have HT := Lib.hid ht
  clear hc hb ht
  have HT0 := Lib.hid (JRow.nil w)
  go_enter Tryz.func44, Tryz.ntmps44
  go_wp2
  go_loopw [3, 8] (fun s3 s8 wr => ∃ (j : Nat), j ≤ 1 ∧ s8 = .int .i64 (j : Int) ∧ Hid (JRow w wr s3 (([numS n] : List ByteArray).take j))) (fun _ s _ => 1 - (intOf s).toNat)
  case atStart => exact ⟨0, by omega, rfl, HT0⟩
  case round =>
    clear HT0
    obtain ⟨j, hj, rfl, HA⟩ := hrel
    by_cases hj5 : j < 1
    · have j0 : (0 : Int) ≤ (j : Int) := by omega
      have j1 : (j : Int) < 1 := by omega
      have hel : wr.cell? ⟨g, off + j, none⟩ = some (.int .i64 n) := by
        obtain rfl : j = 0 := by omega
        exact HA.out.gr.cell HC.out
      have HTB := Lib.hid (HT.out.gr HA.out.gr)
      have HWI := Lib.hid (show wrap64 ((j : Int) + 1) = (j : Int) + 1 from by unfold wrap64; omega)
      have HLE : Hid ((([numS n] : List ByteArray).take j).length ≤ 1000000) := Lib.hid (by rw [List.length_take, List.length_singleton]; omega)
      have HTK : Hid (([numS n] : List ByteArray).take j ++ [numS n] = ([numS n] : List ByteArray).take (j + 1)) := Lib.hid (by
        obtain rfl : j = 0 := by omega
        rfl)
      obtain ⟨N, hN⟩ : ∃ N, N = numS n := ⟨_, rfl⟩
      have HIT : Hid (∀ w, Tab w → Calls Tryz.prog 36 #[.int .i64 n] w fun e w' => e = .returned (.string N) ∧ Gr w w') := Lib.hid (fun w h => by rw [hN]; exact itoa_g n HB.out w h)
      rw [← hN] at HA HLE HTK ⊢
      clear hN
      obtain ⟨X, hX⟩ : ∃ X, X = ([N] : List ByteArray).take j := ⟨_, rfl⟩
      rw [← hX] at HA HLE HTK
      clear hX
      go_wp2_with (first
        | (go_at_call 36; refine (HIT.out _ HTB.out).mono ?_; rintro e w3 ⟨rfl, hg3⟩; have HA3 := Lib.hid ((HA.out.on hg3).on ((Gr.refl w3).alloc (.cells #[.string N] 9))); clear hg3)
        | (at_builtin; refine wpList_append_strR rfl _ _ _ (by rfl) (by rfl) _ _ N (by rfl) HA3.out.row ⟨w3.heap.size, 0, none⟩ 1 (by rfl) (by simp) HLE.out ?_; intro v' w6 hrow hgr hblk; have HA6 := Lib.hid (HA3.out.next hrow hgr hblk); clear hrow hgr hblk))
      go_roundw
      case measure => simp [intOf]; omega
      case rel => exact ⟨j + 1, by omega, by go_num, by rw [← HTK.out]; exact HA6⟩
    · obtain rfl : j = 1 := by omega
      have HA5 := Lib.hid (show JRow w wr _ [numS n] from HA.out)
      clear HA
      go_wp2_with (go_at_call 62; refine (join_num HB.out HA5.out.row).mono ?_; rintro e w9 ⟨rfl, hb9⟩; have HG9 := Lib.hid (HA5.out.gr.trans hb9); clear hb9)
      go_ret
      exact ⟨rfl, HG9.out⟩
end Go.Proofs.YticifnegoacopaaGreatDoor

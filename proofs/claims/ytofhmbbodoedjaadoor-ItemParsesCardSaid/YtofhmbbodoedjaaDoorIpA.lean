/-
  Packets read from a text, plainly. No program is named here.
-/
import Derived.Test.YtofhmbbodoedjaaDoorFltS
import Derived.Test.YtofhmbbodoedjaaDoorItemB
import Derived.Lib.Split
import Derived.Lib.SplitLaws
namespace Go.Proofs.YtofhmbbodoedjaaDoor
open Go Go.RowKit

def kLine : ByteArray := ⟨#[10]⟩
def kBlank : ByteArray := ⟨#[32]⟩
/-- s cut at every c. -/
def pcs (c s : ByteArray) : List ByteArray := Lib.splitB c 0 (Lib.countB s c) s
theorem pcs_miss {c s : ByteArray} (h : Lib.indexB s c = -1) : pcs c s = [s] := Lib.splitB_miss c 0 _ s h
theorem pcs_hit {c s : ByteArray} {i : Nat} (hc : c.size = 1) (h : Lib.indexB s c = i) : pcs c s = s.extract 0 i :: pcs c (s.extract (i + c.size) s.size) := by
  unfold pcs
  rw [Lib.countB_hit s c i (by omega) h, Nat.add_comm, Lib.splitB_hit c 0 _ s i h]
  rfl
theorem pcs_ne (c s : ByteArray) : 0 < (pcs c s).length := by
  unfold pcs
  cases Lib.countB s c with
  | zero => exact Nat.zero_lt_one
  | succ k =>
    unfold Lib.splitB
    split
    · exact Nat.zero_lt_one
    · exact Nat.zero_lt_succ _
theorem ext_size (s : ByteArray) {i k : Nat} (h : k ≤ s.size) : (s.extract i k).size = k - i := by
  rw [ByteArray.size_extract]
  omega
/-- How long all of them are. -/
theorem pcs_sum {c : ByteArray} (hc : c.size = 1) : ∀ (n : Nat) (s : ByteArray), s.size ≤ n → ((pcs c s).map fun x => x.size + 1).sum = s.size + 1
  | n, s, hn => by
    rcases Lib.indexB_cases s c with h | ⟨i, h, h2⟩
    · rw [pcs_miss h]
      simp
    · rw [pcs_hit hc h, List.map_cons, List.sum_cons]
      cases n with
      | zero => omega
      | succ n =>
        have h3 : (s.extract (i + c.size) s.size).size = s.size - (i + c.size) := ext_size s (Nat.le_refl _)
        rw [pcs_sum hc n _ (by rw [h3]; omega), h3, ext_size s (by omega)]
        omega
theorem sum_le_of_mem {l : List ByteArray} {x : ByteArray} (h : x ∈ l) : x.size + 1 ≤ (l.map fun x => x.size + 1).sum := by
  induction l with
  | nil => cases h
  | cons y l ih =>
    rw [List.map_cons, List.sum_cons]
    rcases List.mem_cons.1 h with rfl | h
    · omega
    · have := ih h; omega
theorem sum_len (l : List ByteArray) : l.length ≤ (l.map fun x => x.size + 1).sum := by
  induction l with
  | nil => exact Nat.le_refl _
  | cons y l ih => rw [List.map_cons, List.sum_cons, List.length_cons]; omega
/-- A line, as a packet. -/
def lineN : List (Option Int) → Option Itm
  | [some a, some b, some c, some d, some e] => some ⟨a, b, c, d, e⟩
  | _ => none
def lineR (s : ByteArray) : Option Itm := lineN ((pcs kBlank s).map numR)
theorem lineN_len {l : List (Option Int)} (h : l.length ≠ 5) : lineN l = none := by
  unfold lineN
  split
  · exact absurd rfl h
  · rfl
theorem lineN_bad {l : List (Option Int)} (h : none ∈ l) : lineN l = none := by
  unfold lineN
  split
  · simp at h
  · rfl
theorem lineN_five (a b c d e : Int) : lineN [some a, some b, some c, some d, some e] = some ⟨a, b, c, d, e⟩ := rfl
inductive IR where
  | ok (l : List Itm)
  | err (c p : Int)
noncomputable def ipGo : List ByteArray → List Itm → Int → IR
  | [], out, _ => .ok out
  | s :: L, out, p => if s.size = 0 then ipGo L out (p + 1) else match lineR s with
    | none => .err 3 p
    | some x => if listCode (out ++ [x]) = 0 then ipGo L (out ++ [x]) (p + s.size + 1) else .err (listCode (out ++ [x])) p
theorem ipGo_nil (out : List Itm) (p : Int) : ipGo [] out p = .ok out := rfl
theorem ipGo_empty {s : ByteArray} {L : List ByteArray} {out : List Itm} {p : Int} (h : s.size = 0) : ipGo (s :: L) out p = ipGo L out (p + 1) := by rw [ipGo, if_pos h]
theorem ipGo_form {s : ByteArray} {L : List ByteArray} {out : List Itm} {p : Int} (h : s.size ≠ 0) (hl : lineR s = none) : ipGo (s :: L) out p = .err 3 p := by rw [ipGo, if_neg h, hl]
theorem ipGo_more {s : ByteArray} {L : List ByteArray} {out : List Itm} {p : Int} {x : Itm} (h : s.size ≠ 0) (hl : lineR s = some x) (hc : listCode (out ++ [x]) = 0) : ipGo (s :: L) out p = ipGo L (out ++ [x]) (p + s.size + 1) := by
  rw [ipGo, if_neg h, hl]
  exact if_pos hc
theorem ipGo_bad {s : ByteArray} {L : List ByteArray} {out : List Itm} {p : Int} {x : Itm} (h : s.size ≠ 0) (hl : lineR s = some x) (hc : listCode (out ++ [x]) ≠ 0) : ipGo (s :: L) out p = .err (listCode (out ++ [x])) p := by
  rw [ipGo, if_neg h, hl]
  exact if_neg hc
/-- Never more than 100. -/
theorem listCode_few {l : List Itm} (h : listCode l = 0) : l.length ≤ 100 := by
  rcases Nat.lt_or_ge 100 l.length with h1 | h1
  · rw [(list_many h1).1] at h; cases h
  · exact h1
theorem ipGo_err {L : List ByteArray} {out : List Itm} {p c q : Int} (h : ipGo L out p = .err c q) : c ≠ 0 := by
  induction L generalizing out p with
  | nil => cases h
  | cons s L ih =>
    rw [ipGo] at h
    split at h
    · exact ih h
    · split at h
      · injection h with h1; rw [← h1]; decide
      · split at h
        · exact ih h
        · injection h with h1; rw [← h1]; assumption
/-- What the text is. -/
noncomputable def ipAll (t : ByteArray) : IR := ipGo (pcs kLine t) [] 0
end Go.Proofs.YtofhmbbodoedjaaDoor

/-
  The reference's test: its ground.
-/
import Derived.Test.YthkccohigoejgaaGreatDoorFltRE
import Derived.Test.YthkccohigoejgaaGreatDoorFltQ
namespace Go.Proofs.YthkccohigoejgaaGreatDoor
open Go Go.RowKit

theorem index_g (s : ByteArray) (hs : s.size ≤ 2001) (w : World) (h : Env w) : Calls Tryz.prog 18 #[.string s, .string ⟨#[46, 46]⟩] w fun e w' => e = .returned (.int .i64 (Lib.index s.data.toList kDots.data.toList)) ∧ w' = w := by
  obtain ⟨m, hm⟩ := h.mx
  exact Tryz.strings_Index s kDots m w (by omega) hm
/-- No dots. -/
theorem cut_none {s : ByteArray} (h : Lib.index s.data.toList kDots.data.toList < 0) : cutT s = false ∧ cutA s = s := by
  unfold cutT cutA Lib.cut
  rw [if_neg (by omega)]
  exact ⟨rfl, rfl⟩
/-- Dots at j. -/
theorem cut_some {s : ByteArray} {j : Nat} (h : Lib.index s.data.toList kDots.data.toList = (j : Int)) : cutT s = true ∧ cutA s = s.extract 0 j ∧ cutB s = s.extract (j + 2) s.size ∧ j + 2 ≤ s.size := by
  have hr := Lib.index_room s.data.toList kDots.data.toList (by omega)
  rw [h] at hr
  have hk : kDots.data.toList.length = 2 := rfl
  rw [hk, Array.length_toList] at hr
  unfold cutT cutA cutB Lib.cut
  rw [h, if_pos (by omega)]
  refine ⟨rfl, ?_, ?_, by show j + 2 ≤ s.data.size; omega⟩
  · rw [Lib.extract_eq]; simp
  · rw [Lib.extract_eq]
    simp only [Int.toNat_natCast]
    congr 2
    rw [List.take_of_length_le]
    · rfl
    · rw [List.length_drop, Array.length_toList]
      exact Nat.le_refl _
theorem extract_le (s : ByteArray) (a b : Nat) : (s.extract a b).size ≤ s.size := by
  rw [ByteArray.size_extract]
  omega
theorem pf_hit' {i : Nat} {L r : List Tok} (hi : i < 5) (h : isT (fname i) L = some r) : pFld (5 - i) L = pTest i r := by
  have e : 5 - i = (4 - i) + 1 := by omega
  rw [e]
  have := pf_hit (k := 4 - i) (L := L) (r := r) (by rw [show 4 - (4 - i) = i by omega]; exact h)
  rwa [show 4 - (4 - i) = i by omega] at this
theorem pf_miss' {i : Nat} {L : List Tok} (hi : i < 5) (h : isT (fname i) L = none) : pFld (5 - i) L = pFld (5 - (i + 1)) L := by
  have e : 5 - i = (4 - i) + 1 := by omega
  rw [e, pf_miss (k := 4 - i) (by rw [show 4 - (4 - i) = i by omega]; exact h)]
  congr 1
  omega
/-- A test in the making. -/
structure RT (w0 w wr : World) (p m b i : Nat) (L : List Tok) (e c pl : Int) (k : ByteArray) (lo hi : Int) : Prop where
  rp : RP w0 wr p m L e c pl
  ts : RB wr b k (i : Int) lo hi (.slice none 0 0)
  sv : Sav (fun q => q = p) w wr
  bw : w.heap.size ≤ b
  mb : m ≤ b
section
variable {w0 w wr w' : World} {p m b i : Nat} {L L' : List Tok} {e c c' pl pl' : Int} {k : ByteArray} {lo hi : Int}
theorem RT.ne (h : RT w0 w wr p m b i L e c pl k lo hi) : b ≠ p := by have := h.rp.rm; have := h.mb; omega
theorem RT.call (h : RT w0 w wr p m b i L e c pl k lo hi) (hs : Sav (fun q => q = p) wr w') (hrp : RP w0 w' p m L' e c' pl') : RT w0 w w' p m b i L' e c' pl' k lo hi := ⟨hrp, h.ts.sav hs h.ne, h.sv.then hs, h.bw, h.mb⟩
theorem RT.setb (h : RT w0 w wr p m b i L e c pl k lo hi) (j : Nat) (v : Value) : RP w0 (wr.setCell ⟨b, j, none⟩ v) p m L e c pl ∧ Sav (fun q => q = p) w (wr.setCell ⟨b, j, none⟩ v) :=
  ⟨h.rp.old (fun q hq => Below.heap_setCell _ _ _ _ (fun e => by have := h.mb; simp only at e; omega)) (by simp) (h.rp.gr.setCell (by have := h.mb; have := h.rp.rm; have := h.rp.fr; show w0.heap.size ≤ b; omega) _), h.sv.trans (Sav.set b j v) fun q hq => .inr (by rw [hq]; exact h.bw)⟩
theorem RT.s0 (h : RT w0 w wr p m b i L e c pl k lo hi) (x : ByteArray) : RT w0 w (wr.setCell ⟨b, 0, none⟩ (.string x)) p m b i L e c pl x lo hi := ⟨(h.setb 0 _).1, h.ts.s0 x, (h.setb 0 _).2, h.bw, h.mb⟩
theorem RT.s2 (h : RT w0 w wr p m b i L e c pl k lo hi) (x : Int) : RT w0 w (wr.setCell ⟨b, 2, none⟩ (.int .i64 x)) p m b i L e c pl k x hi := ⟨(h.setb 2 _).1, h.ts.s2 x, (h.setb 2 _).2, h.bw, h.mb⟩
theorem RT.s3 (h : RT w0 w wr p m b i L e c pl k lo hi) (x : Int) : RT w0 w (wr.setCell ⟨b, 3, none⟩ (.int .i64 x)) p m b i L e c pl k lo x := ⟨(h.setb 3 _).1, h.ts.s3 x, (h.setb 3 _).2, h.bw, h.mb⟩
/-- The word is gone. -/
theorem RP.cutAt {x : Tok} (h : RP w0 wr p m (x :: L) e c pl) {b o q : Nat} (hc : wr.cell? ⟨p, 0, none⟩ = some (.slice (some ⟨b, o, none⟩) (L.length + 1) q)) {v : Value} (hv : v = .slice (some (if q = 1 then ⟨b, o, none⟩ else ⟨b, o + 2, none⟩)) L.length (q - 1)) : RP w0 (wr.setCell ⟨p, 0, none⟩ v) p m L e c pl := by
  obtain ⟨b', o', q', h1, _, _, _, _, _, h2⟩ := h.cut1
  rw [hc] at h1
  injection h1 with h1
  injection h1 with e1 _ e3
  injection e1 with e1
  injection e1 with e4 e5
  subst e3 e4 e5
  exact h2 v hv
theorem RT.gone {x : Tok} (h : RT w0 w wr p m b i (x :: L) e c pl k lo hi) {g o q : Nat} (hc : wr.cell? ⟨p, 0, none⟩ = some (.slice (some ⟨g, o, none⟩) (L.length + 1) q)) {v : Value} (hv : v = .slice (some (if q = 1 then ⟨g, o, none⟩ else ⟨g, o + 2, none⟩)) L.length (q - 1)) : RT w0 w (wr.setCell ⟨p, 0, none⟩ v) p m b i L e c pl k lo hi :=
  h.call (Sav.set p 0 v) (h.rp.cutAt hc hv)
theorem RT.test (h : RT w0 w wr p m b i L e 0 pl kTest lo hi) (hi5 : i < 5) (h1 : 0 ≤ lo ∧ lo ≤ 1000000000) (h2 : 0 ≤ hi ∧ hi ≤ 1000000000) (d : Nat) : RAns w0 w wr p m (d + 1) e (.returned (.pointer (some ⟨b, 0, none⟩))) (.ok (.test i lo hi) L) :=
  ⟨_, rfl, ⟨⟨b, rfl, h.bw, h.ts.lt, h.ts, hi5, h1, h2⟩, pl, h.rp⟩, h.sv⟩
theorem RT.has (h : RT w0 w wr p m b i L e 0 pl kHas lo lo) (hi5 : i < 5) (h1 : 0 ≤ lo ∧ lo ≤ 1000000000) (d : Nat) : RAns w0 w wr p m (d + 1) e (.returned (.pointer (some ⟨b, 0, none⟩))) (.ok (.has i lo) L) :=
  ⟨_, rfl, ⟨⟨b, rfl, h.bw, h.ts.lt, h.ts, hi5, h1⟩, pl, h.rp⟩, h.sv⟩
theorem RT.gr (h : RT w0 w wr p m b i L e c pl k lo hi) (g : Gr wr w') : RT w0 w w' p m b i L e c pl k lo hi := h.call (.of_gr g) (h.rp.gr' g)
/-- Told at fault. -/
theorem RT.bad (h : RT w0 w wr p m b i L e c (placeOf e L') k lo hi) (hc : c ≠ 0) (d : Nat) : RAns w0 w wr p m d e (.returned (.pointer (some ⟨b, 0, none⟩))) (.err c L') := ⟨_, rfl, ⟨⟨_, rfl⟩, hc, L, h.rp⟩, h.sv⟩
end
end Go.Proofs.YthkccohigoejgaaGreatDoor

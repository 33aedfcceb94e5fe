/-
  slices.Concat of two slices of bytes.
-/
import Derived.Test.YticifnegoacopaaGreatDoorBokC
namespace Go.Proofs.YticifnegoacopaaGreatDoor
open Go Go.RowKit

def szTo (x y : ByteArray) : Nat → Nat
  | 0 => 0
  | 1 => x.size
  | _ => x.size + y.size
def upToB (x y : ByteArray) : Nat → ByteArray
  | 0 => ⟨#[]⟩
  | 1 => x
  | _ => x ++ y
def pieceAt (x y : ByteArray) : Nat → ByteArray
  | 0 => x
  | _ => y
theorem szTo_next (x y : ByteArray) {i : Nat} (hi : i < 2) : szTo x y (i + 1) = szTo x y i + (pieceAt x y i).size := by
  match i, hi with
  | 0, _ => simp [szTo, pieceAt]
  | 1, _ => rfl
theorem upToB_next (x y : ByteArray) {i : Nat} (hi : i < 2) : upToB x y i ++ pieceAt x y i = upToB x y (i + 1) := by
  match i, hi with
  | 0, _ => exact nil_bapp x
  | 1, _ => rfl
theorem upToB_size (x y : ByteArray) (i : Nat) : (upToB x y i).size ≤ x.size + y.size := by
  match i with
  | 0 => exact Nat.zero_le _
  | 1 => simp [upToB]
  | i + 2 => simp [upToB]

theorem OwnB.low {w : World} {base base' : Nat} {v : Value} {d : ByteArray} (h : OwnB w base v d) (hb : base' ≤ base) : OwnB w base' v d := by
  refine ⟨h.1, h.2.imp id ?_⟩
  rintro ⟨g, cap, cur, e, h1, h2⟩
  exact ⟨g, cap, cur, e, Nat.le_trans hb h1, h2⟩
set_option maxRecDepth 100000 in
set_option maxHeartbeats 8000000 in
theorem concat_two {w : World} {q c : Nat} {u1 u2 : Value} {x y : ByteArray} (k0 : w.cell? ⟨q, 0, none⟩ = some u1) (k1 : w.cell? ⟨q, 1, none⟩ = some u2) (h1 : BytesAt w u1 x) (h2 : BytesAt w u2 y) (hx : x.size ≤ 50000) (hy : y.size ≤ 50000) :
    Calls Tryz.prog 29 #[.slice (some ⟨q, 0, none⟩) 2 c] w fun e w' => ∃ v, e = .returned v ∧ OwnB w' w.heap.size v (x ++ y) ∧ Gr w w' := by
  have HP : Hid (∀ i, i < 2 → ∃ u, w.cell? ⟨q, i, none⟩ = some u ∧ BytesAt w u (pieceAt x y i)) := Lib.hid (fun i hi => by
    match i, hi with
    | 0, _ => exact ⟨u1, k0, h1⟩
    | 1, _ => exact ⟨u2, k1, h2⟩)
  have HS := Lib.hid (And.intro hx hy)
  have HZ : Hid (∀ i, (pieceAt x y i).size ≤ 50000 ∧ szTo x y i ≤ 100000) := Lib.hid (fun i => by
    match i with
    | 0 => exact ⟨hx, Nat.zero_le _⟩
    | 1 => exact ⟨hy, by simp only [szTo]; omega⟩
    | i + 2 => exact ⟨hy, by simp only [szTo]; omega⟩)
  have HG0 := Lib.hid (Gr.refl w)
  clear k0 k1 h1 h2 hx hy
  go_enter Tryz.func29, Tryz.ntmps29
  go_wp2
  go_loopw [3, 11] (fun s3 s11 wr => ∃ i : Nat, i ≤ 2 ∧ s11 = .int .i64 (i : Int) ∧ s3 = .int .i64 (szTo x y i : Int) ∧ Hid (Gr w wr)) (fun _ s _ => 2 - (intOf s).toNat)
  case atStart => exact ⟨0, Nat.zero_le _, rfl, rfl, HG0⟩
  case round =>
    clear HG0
    obtain ⟨i, hi, rfl, rfl, HG⟩ := hrel
    by_cases hlt : i < 2
    · obtain ⟨u, k, hb⟩ := HP.out i hlt
      obtain ⟨a, cc, rfl, _⟩ := hb
      have kk := HG.out.cell k
      have i0 : (0 : Int) ≤ (i : Int) := by omega
      have i1 : (i : Int) < 2 := by omega
      have hz := HZ.out i
      have HN := Lib.hid (szTo_next x y hlt)
      obtain ⟨S2, hS2⟩ : ∃ S2, S2 = szTo x y (i + 1) := ⟨_, rfl⟩
      have HS2 := Lib.hid hS2
      rw [← hS2] at HN
      clear k hS2
      generalize szTo x y i = S at *
      generalize (pieceAt x y i).size = Z at *
      obtain ⟨hz1, hz2⟩ := hz
      have s0 : (0 : Int) ≤ (S : Int) := by omega
      have s1 : (S : Int) ≤ 100000 := by omega
      have s2 : (0 : Int) ≤ (Z : Int) := by omega
      have s3 : (Z : Int) ≤ 50000 := by omega
      have s4 : ¬ ((S : Int) + (Z : Int) < 0) := by omega
      go_wp2
      go_roundw
      case rel => exact ⟨i + 1, by omega, by go_num, by rw [← HS2.out, HN.out]; congr 1, HG⟩
      case measure => simp [intOf]; omega
    · obtain rfl : i = 2 := by omega
      have HGR := Lib.hid (fun u : World => grow_nil (szTo x y 2) (HZ.out 2).2 u)
      have hz := (HZ.out 2).2
      generalize szTo x y 2 = S at *
      have s0 : (0 : Int) ≤ (S : Int) := by omega
      go_wp2_with (go_at_call 48; refine (HGR.out _).mono ?_; rintro e w1 ⟨v, rfl, ho, hg⟩; have HO := Lib.hid (ho.low HG.out.size); have HG1 := Lib.hid (HG.out.trans hg); clear ho hg)
      go_loopw [6, 27] (fun s6 s27 wr2 => ∃ j : Nat, j ≤ 2 ∧ s27 = .int .i64 (j : Int) ∧ Hid (OwnB wr2 w.heap.size s6 (upToB x y j)) ∧ Hid (Gr w wr2)) (fun _ s _ => 2 - (intOf s).toNat)
      case atStart => exact ⟨0, Nat.zero_le _, rfl, HO, HG1⟩
      case round =>
        clear HO HG1 HG
        obtain ⟨j, hj, rfl, HO, HG⟩ := hrel
        by_cases hlt : j < 2
        · obtain ⟨u, k, hb⟩ := HP.out j hlt
          have hbb := hb.gr HG.out
          obtain ⟨v', w6, hr, ho, hg⟩ := bytes_app HO.out hbb (by have := upToB_size x y j; have := HS.out; omega) (by have := (HZ.out j).1; omega) HG.out.size
          rw [upToB_next x y hlt] at ho
          have HR := Lib.hid hr
          have HO2 := Lib.hid ho
          have HG2 : Hid (Gr w w6) := Lib.hid (HG.out.grown hg (fun k hk => HO.out.age hk))
          obtain ⟨a, cc, rfl, _⟩ := hb
          obtain ⟨oa, oc, rfl, _⟩ := HO.out.shape
          obtain ⟨va, vc, rfl, _⟩ := ho.shape
          have kk := HG.out.cell k
          have i0 : (0 : Int) ≤ (j : Int) := by omega
          have i1 : (j : Int) < 2 := by omega
          clear hr ho hg hbb k
          go_wp2_with (at_builtin; refine Lib.wpList_append_run _ rfl _ _ _ _ rfl _ _ (by rfl) (by rfl) _ _ HR.out ?_)
          go_roundw
          case rel => exact ⟨j + 1, by omega, by go_num, HO2, HG2⟩
          case measure => simp [intOf]; omega
        · obtain rfl : j = 2 := by omega
          go_wp2
          go_ret
          exact ⟨_, rfl, HO.out, HG.out⟩
end Go.Proofs.YticifnegoacopaaGreatDoor

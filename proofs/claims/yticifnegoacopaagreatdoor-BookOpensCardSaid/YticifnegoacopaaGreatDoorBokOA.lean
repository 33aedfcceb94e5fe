/-
  Open, OpenBook: their ground.
-/
import Derived.Test.YticifnegoacopaaGreatDoorBokAO
import Derived.Test.YticifnegoacopaaGreatDoorBokW
import Derived.Shelf.Bytes.IndexByte
namespace Go.Proofs.YticifnegoacopaaGreatDoor
open Go Go.RowKit

/-- The slice u holds the bytes x; its capacity. -/
structure BytesC (w : World) (a : Option Addr) (n c : Nat) (x : ByteArray) : Prop where
  b : BytesAt w (.slice a n c) x
  len : n = x.size
  cap : n ≤ c
  nil : a = none → c = 0
theorem BytesC.gr {w w' : World} {a : Option Addr} {n c : Nat} {x : ByteArray} (h : BytesC w a n c x) (g : Gr w w') : BytesC w' a n c x := ⟨h.b.gr g, h.len, h.cap, h.nil⟩
theorem cells_drop (d : ByteArray) (k : Nat) : Lib.strCells (d.extract k d.size) = (Lib.strCells d).drop k := by
  have hsz : d.data.toList.length = d.size := Array.length_toList
  unfold Lib.strCells
  rw [Lib.extract_data, List.take_of_length_le (by rw [List.length_drop, hsz]; exact Nat.le_refl _), List.map_drop]
theorem drop_len {d : ByteArray} {k : Nat} : (d.extract k d.size).size = d.size - k := by
  rw [ByteArray.size_extract]
  omega
/-- data[k:] -/
theorem BytesC.drop {w : World} {a : Option Addr} {n c k : Nat} {d : ByteArray} (h : BytesC w a n c d) (hk : k ≤ n) : ∃ a', (∀ u : World, (Instr.sliceAt 25 (.slice a n c) (some (.int .i64 (k : Int))) none none).run Tryz.prog u = .ok (.slice a' (n - k) (c - k)) u) ∧ BytesC w a' (n - k) (c - k) (d.extract k d.size) := by
  have h0 : (0 : Int) ≤ (k : Int) := by omega
  have h1 : (k : Int) ≤ (n : Int) := by omega
  obtain ⟨a0, c0, e, hb⟩ := h.b
  obtain ⟨e1, e2, e3⟩ := Value.slice.inj e
  subst e1 e3
  clear e e2
  have hn := h.len
  have hcap := h.cap
  have hdl : n - k = (d.extract k d.size).size := by rw [drop_len, ← hn]
  cases a with
  | none =>
    have hc := h.nil rfl
    have hz : n = 0 := by omega
    subst hc
    subst hz
    have hk0 : k = 0 := by omega
    subst hk0
    exact ⟨none, fun u => by simp [Instr.sliceAt, go_sem], ⟨none, 0, by rw [← hdl], .inl (by rw [← hdl])⟩, hdl, Nat.le_refl _, fun _ => rfl⟩
  | some ad =>
    by_cases e : c = k
    · exact ⟨some ad, fun u => by simp [Instr.sliceAt, h0, h1, go_sem, e], ⟨some ad, c - k, by rw [← hdl], .inl (by rw [← hdl]; omega)⟩, hdl, by omega, fun h => by cases h⟩
    · refine ⟨some (ad.add k), fun u => by obtain ⟨b, o, sp⟩ := ad; simp [Instr.sliceAt, h0, h1, go_sem, e], ⟨some (ad.add k), c - k, by rw [← hdl], ?_⟩, hdl, by omega, fun h => by cases h⟩
      by_cases hz : n - k = 0
      · exact .inl (by rw [← hdl]; exact hz)
      rcases hb with hb | ⟨ad', e', hl, hc⟩
      · exact .inl (by rw [← hdl]; omega)
      · cases e'
        have hsz : (Lib.strCells d).length = d.size := Lib.strCells_length d
        have c00 := hc 0 _ (List.getElem?_eq_getElem (by omega))
        obtain ⟨b, o, sp⟩ := ad
        have hspot : sp = none := by simpa [Addr.add] using World.cell?_spot c00
        subst hspot
        refine .inr ⟨_, rfl, by rw [Addr.add_lit]; exact hl, fun j v hv => ?_⟩
        rw [cells_drop, List.getElem?_drop] at hv
        have h9 := hc (k + j) v hv
        rw [Addr.add_lit] at h9
        rw [Addr.add_lit, Addr.add_lit, Nat.add_assoc]
        exact h9
/-- data[:m] -/
theorem BytesC.pre {w : World} {a : Option Addr} {n c m : Nat} {d : ByteArray} (h : BytesC w a n c d) (hm : m ≤ n) : BytesC w a m c (d.extract 0 m) :=
  ⟨BytesAt.pre h.b (by rw [← h.len]; exact hm), (ext_len (by rw [← h.len]; exact hm)).symm, Nat.le_trans hm h.cap, h.nil⟩
theorem wpList_dropB {w w0 : World} {ops : Array Oper} {rest : List Oper} {o : Oper} {a : Act} {Q : Exit → Act → World → Prop} (hg : o.guard = none) (x y : Operand) (ho : o.op = .slice 25 x (some y) none none) {b : Option Addr} {n c k : Nat} {d : ByteArray} (hx : a.eval x = .slice b n c) (hy : a.eval y = .int .i64 (k : Int)) (h : BytesC w0 b n c d) (hk : k ≤ n)
    (hK : ∀ b', BytesC w0 b' (n - k) (c - k) (d.extract k d.size) → wpList Tryz.prog ops Q rest (a.put o.dst (.slice b' (n - k) (c - k))) w) : wpList Tryz.prog ops Q (o :: rest) a w := by
  refine wpList_plain hg fun K' hK' => ?_
  obtain ⟨b', hr, hb⟩ := h.drop hk
  unfold Oper.wp
  simp [execOp, ho, hx, hy, hr w, Result.andThen]
  exact hK' _ _ (hK b' hb)
theorem wpList_preB {w w0 : World} {ops : Array Oper} {rest : List Oper} {o : Oper} {a : Act} {Q : Exit → Act → World → Prop} (hg : o.guard = none) (x y : Operand) (ho : o.op = .slice 25 x none (some y) none) {b : Option Addr} {n c k : Nat} {d : ByteArray} (hx : a.eval x = .slice b n c) (hy : a.eval y = .int .i64 (k : Int)) (h : BytesC w0 b n c d) (hk : k ≤ n)
    (hK : BytesC w0 b k c (d.extract 0 k) → wpList Tryz.prog ops Q rest (a.put o.dst (.slice b k c)) w) : wpList Tryz.prog ops Q (o :: rest) a w := by
  refine wpList_plain hg fun K' hK' => ?_
  have hr := s_preB (ev := a.eval) (o := o) (w := w) ho hx hy hk h.cap h.nil
  unfold Oper.wp
  rw [hr]
  exact hK' _ _ (hK (h.pre hk))
theorem wpList_convB {w : World} {ops : Array Oper} {rest : List Oper} {o : Oper} {a : Act} {Q : Exit → Act → World → Prop} (hg : o.guard = none) (x : Operand) (ho : o.op = .convert 25 9 x) {u : Value} {d : ByteArray} (hx : a.eval x = u) (h : BytesAt w u d)
    (hK : wpList Tryz.prog ops Q rest (a.put o.dst (.string d)) w) : wpList Tryz.prog ops Q (o :: rest) a w := by
  refine wpList_plain hg fun K' hK' => ?_
  have hr := s_conv (ev := a.eval) (o := o) (w := w) ho hx h
  unfold Oper.wp
  rw [hr]
  exact hK' _ _ hK
theorem bytesOf_back (x : ByteArray) : Lib.bytesOf (x.data.toList.map fun b => (b.toNat : Int)) = x.data.toList := by
  unfold Lib.bytesOf
  rw [List.map_map]
  conv => rhs; rw [← List.map_id x.data.toList]
  refine List.map_congr_left fun b _ => ?_
  simp
/-- bytes.IndexByte, at a line's end. -/
theorem idxByte_any {w : World} {a : Option Addr} {n c : Nat} {x : ByteArray} (h : BytesC w a n c x) : Calls Tryz.prog 30 #[.slice a n c, .int .u8 10] w fun e w' => e = .returned (.int .i64 (Lib.indexB x kNl)) ∧ w = w' := by
  have hi : Lib.indexB x kNl = Lib.indexByte x.data.toList 10 := Lib.index_one _ _
  obtain ⟨a0, c0, e, hb⟩ := h.b
  obtain ⟨e1, e2, e3⟩ := Value.slice.inj e
  subst e1 e3
  clear e e2
  have hn := h.len
  cases a with
  | none =>
    have hc := h.nil rfl
    have hcap := h.cap
    subst hc
    have h0 : n = 0 := by omega
    have hx : x.data.toList = [] := List.eq_nil_of_length_eq_zero (by rw [Array.length_toList]; show x.size = 0; omega)
    subst h0
    refine (Any.bytes_IndexByte_nil Tryz.lays187 10 w).mono ?_
    rintro e w' ⟨rfl, rfl⟩
    exact ⟨by rw [hi, hx]; rfl, rfl⟩
  | some ad =>
    refine (Tryz.bytes_IndexByte_at ad n c (x.data.toList.map fun b => (b.toNat : Int)) 10 w (by rw [List.length_map, Array.length_toList]; exact hn.symm) (fun i hi2 => ?_)).mono ?_
    · rcases hb with hb | ⟨ad', e', _, hc⟩
      · omega
      · cases e'
        refine hc i _ ?_
        have hl : i < x.data.toList.length := by rw [Array.length_toList]; show i < x.size; omega
        unfold Lib.strCells
        rw [List.getElem?_map, List.getElem?_eq_getElem hl, List.getD_eq_getElem?_getD, List.getElem?_map, List.getElem?_eq_getElem hl]
        rfl
    · rintro e w' ⟨rfl, rfl⟩
      exact ⟨by rw [hi, bytesOf_back]; rfl, rfl⟩
theorem split_g (s : ByteArray) (hs : s.size ≤ 20001) (w : World) (h : Env w) : Calls Tryz.prog 31 #[.string s, .string ⟨#[32]⟩] w fun e w' => e = .returned (.slice (some ⟨w.heap.size, 0, none⟩) (pcs kSp s).length (pcs kSp s).length) ∧ w' = w.alloc (.cells ((pcs kSp s).map Value.string).toArray 9) := by
  obtain ⟨m, hm⟩ := h.mx
  rw [pcs_len (by decide)]
  exact Tryz.strings_Split s kSp m w (by omega) hm (by decide)
/-- The pieces of a line. -/
structure PcsAt (w : World) (g : Nat) (L : List ByteArray) : Prop where
  blk : w.heap[g]? = some (.cells (L.map Value.string).toArray 9 (0, 0))
theorem PcsAt.at_ {w : World} {g : Nat} {L : List ByteArray} (h : PcsAt w g L) {k : Nat} (hk : k < L.length) : w.cell? ⟨g, k, none⟩ = some (.string (L.getD k ⟨#[]⟩)) := by
  rw [cell_of_row _ _ k _ _ _ h.blk]
  simp [hk]
theorem PcsAt.gr {w w' : World} {g : Nat} {L : List ByteArray} (h : PcsAt w g L) (k : Gr w w') : PcsAt w' g L := ⟨(k.block (Array.getElem?_eq_some_iff.1 h.blk).1).trans h.blk⟩
theorem PcsAt.keep {w w' : World} {g n0 p s : Nat} {M : List Ent} {L : List ByteArray} (h : PcsAt w g L) (hp : Bok w n0 p M s) (k : Kp badB n0 p w w') : PcsAt w' g L := by
  obtain ⟨mv, dv, hp⟩ := hp
  refine ⟨k.block g _ h.blk (fun e => ?_) (.inr fun hb => absurd (show (9 : TypeId) = 5 from hb) (by decide))⟩
  have := h.blk
  rw [e, hp.blk] at this
  injection this with e1
  injection e1 with _ e2
  exact absurd e2 (by decide)
theorem PcsAt.keepR {w w' : World} {g n0 r : Nat} {M : List Ent} {L : List ByteArray} (h : PcsAt w g L) (hr : RBok w n0 r M) (k : Kp badR n0 r w w') : PcsAt w' g L := by
  obtain ⟨v, hr⟩ := hr
  refine ⟨k.block g _ h.blk (fun e => ?_) (.inr fun hb => absurd (show (9 : TypeId) = 61 from hb) (by decide))⟩
  have := h.blk
  rw [e, hr.blk] at this
  injection this with e1
  injection e1 with _ e2
  exact absurd e2 (by decide)
theorem split_any (s : ByteArray) (hs : s.size ≤ 20001) (w : World) (h : Env w) : Calls Tryz.prog 31 #[.string s, .string ⟨#[32]⟩] w fun e w' => ∃ g, e = .returned (.slice (some ⟨g, 0, none⟩) (pcs kSp s).length (pcs kSp s).length) ∧ PcsAt w' g (pcs kSp s) ∧ Gr w w' := by
  refine (split_g s hs w h).mono ?_
  rintro e w' ⟨rfl, rfl⟩
  exact ⟨_, rfl, ⟨heap_alloc_new w _⟩, (Gr.refl w).alloc _⟩
end Go.Proofs.YticifnegoacopaaGreatDoor

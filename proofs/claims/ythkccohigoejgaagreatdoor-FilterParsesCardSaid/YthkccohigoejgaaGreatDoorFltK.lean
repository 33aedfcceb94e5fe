/-
  The program's list of filters: its ground.
-/
import Derived.Test.YthkccohigoejgaaGreatDoorFltT
namespace Go.Proofs.YthkccohigoejgaaGreatDoor
open Go Go.RowKit

theorem ifInfo : (Tryz.prog.info? 29).map (fun i => (i.zero, i.size, i.bytes)) = some (some .nilIface, 1, 16) := by kernel_rfl
theorem FltV.bound {S : Nat → Prop} : ∀ {d : Nat} {w : World} {v : Value} {f : Flt}, FltV S d w v f → FltV (fun g => S g ∧ g < w.heap.size) d w v f
  | 0, _, _, _, h => h.elim
  | d + 1, w, v, f, h => by
    cases f with
    | any => exact h
    | test i lo hi => exact h
    | has i lo => exact h
    | not g =>
      obtain ⟨u, h1, h2⟩ := h
      exact ⟨u, h1, h2.bound⟩
    | many l o =>
      obtain ⟨s, vs, h1, h2, h3, h4, h5, h6, h7⟩ := h
      exact ⟨s, vs, h1, h2, fun g hg => ⟨h3 g hg, Row.lt h2 hg⟩, h4, h5, h6, fun i hi => (h7 i hi).bound⟩
/-- So far: the filters acc, in the making at block t. -/
structure LsAt (w0 w wr : World) (r m t d k : Nat) (L : List Tok) (e : Int) (acc : List Flt) (s : Value) (vs : List Value) (S : Nat → Prop) : Prop where
  rd : Rd w0 wr r m L k e
  ts : wr.heap[t]? = some (.cells #[s, .bool false] 83 (0, 0))
  row : IfRow wr s vs
  len : vs.length = acc.length
  kids : ∀ i, i < acc.length → FltV S d wr (vs.getD i .nilIface) (acc.getD i .any)
  sin : ∀ g, S g → t < g ∧ g < wr.heap.size
  own : ∀ g, s.ownBlock = some g → t < g ∧ ¬ S g
  tm : m ≤ t
  tw : w.heap.size ≤ t
  sv : Sav (fun q => q = r) w wr
  few : acc.length + (L.length - k) ≤ L.length
theorem LsAt.more {w0 w wr w1 w2 : World} {r m t d k k1 : Nat} {L : List Tok} {e : Int} {acc : List Flt} {s : Value} {vs : List Value} {S : Nat → Prop} (h : LsAt w0 w wr r m t d k L e acc s vs S) {v v' : Value} {f : Flt} (hrd : Rd w0 w1 r m L k1 e) (hv : FltV (fun g => wr.heap.size ≤ g) d w1 v f) (hs : Sav (fun q => q = r) wr w1) (hk : k < k1)
    {o : Obj} (row : IfRow w2 v' (vs ++ [v])) (g : (w1.alloc o).grownBy w2 s.ownBlock) (hown : ∀ g, v'.ownBlock = some g → s.ownBlock = some g ∨ (w1.alloc o).heap.size ≤ g) :
    LsAt w0 w (w2.setCell ⟨t, 0, none⟩ v') r m t d k1 L e (acc ++ [f]) v' (vs ++ [v]) (fun g => S g ∨ (wr.heap.size ≤ g ∧ g < w1.heap.size)) := by
  have hrt : r < t := Nat.lt_of_lt_of_le h.rd.rm h.tm
  have htl : t < wr.heap.size := (Array.getElem?_eq_some_iff.1 h.ts).1
  have hsz : (w1.alloc o).heap.size = w1.heap.size + 1 := by simp
  have hw1 : wr.heap.size ≤ w1.heap.size := hs.size
  have hol : ∀ g, s.ownBlock = some g → g < wr.heap.size := fun g hg => Row.lt h.row hg
  -- blocks of w1 that are neither the row's nor t stand
  have hb : ∀ q, q < w1.heap.size → s.ownBlock ≠ some q → q ≠ t → (w2.setCell ⟨t, 0, none⟩ v').heap[q]? = w1.heap[q]? := fun q hq h1 h2 => by
    rw [Below.heap_setCell _ _ _ _ (fun e => h2 e), g.block q (by omega) (fun e => h1 e.symm)]
    exact ((Gr.refl w1).alloc o).block hq
  have hsv : Sav (fun q => s.ownBlock = some q ∨ q = t) w1 (w2.setCell ⟨t, 0, none⟩ v') := by
    have k1 : Sav (fun q => s.ownBlock = some q ∨ q = t) w1 w2 := (Sav.of_gr ((Gr.refl w1).alloc o)).then (Sav.of_grown g fun q e => .inl e)
    exact k1.then (Sav.setCell (B := fun q => s.ownBlock = some q ∨ q = t) (p := ⟨t, 0, none⟩) (.inr rfl) v')
  have hgr : Gr w0 (w2.setCell ⟨t, 0, none⟩ v') := hsv.gr hrd.gr fun q hq => by
    rcases hq with hq | rfl
    · have := (h.own q hq).1
      have := h.tm
      have := hrd.fr
      omega
    · have := hrd.fr; omega
  have ht1 : w1.heap[t]? = some (.cells #[s, .bool false] 83 (0, 0)) := (hs.block t htl (fun e => by omega)).trans h.ts
  have hot : s.ownBlock ≠ some t := fun e => by have := (h.own t e).1; omega
  have ht2 : w2.heap[t]? = some (.cells #[s, .bool false] 83 (0, 0)) := by
    rw [g.block t (by omega) (fun e => hot e.symm)]
    exact (((Gr.refl w1).alloc o).block (Nat.lt_of_lt_of_le htl hw1)).trans ht1
  refine ⟨hrd.old (fun q hq => hb q (Nat.lt_of_lt_of_le hq hrd.ms) (fun e => ?_) (fun e => ?_)) hsv.size hgr, ?_, ?_, by simp [h.len], fun i hi => ?_, fun g' hg' => ?_, fun g' hg' => ?_, h.tm, h.tw, ?_, ?_⟩
  · have := (h.own q e).1; have := h.tm; omega
  · have := h.tm; omega
  · simp [World.setCell, Array.getElem?_modify, ht2]
  · unfold IfRow at row ⊢
    refine Row.setCell row v' (fun e => ?_)
    rcases hown _ e with e1 | e1
    · exact hot e1
    · rw [hsz] at e1; simp only at e1; omega
  · by_cases hi2 : i < acc.length
    · have e1 : (vs ++ [v]).getD i .nilIface = vs.getD i .nilIface := by simp [List.getD_eq_getElem?_getD, List.getElem?_append_left (by rw [h.len]; exact hi2)]
      have e2 : (acc ++ [f]).getD i .any = acc.getD i .any := by simp [List.getD_eq_getElem?_getD, List.getElem?_append_left hi2]
      rw [e1, e2]
      refine ((h.kids i hi2).same (fun g' hg' => ?_)).mono fun g' hg' => .inl hg'
      have h1 := h.sin g' hg'
      rw [hb g' (by omega) (fun e => (h.own g' e).2 hg') (by omega)]
      exact hs.block g' h1.2 (fun e => by omega)
    · have hie : i = acc.length := by simp at hi; omega
      subst hie
      have e1 : (vs ++ [v]).getD acc.length .nilIface = v := by rw [← h.len]; simp [List.getD_eq_getElem?_getD]
      have e2 : (acc ++ [f]).getD acc.length .any = f := by simp [List.getD_eq_getElem?_getD]
      rw [e1, e2]
      refine (hv.bound.same (fun g' hg' => ?_)).mono fun g' hg' => .inr hg'
      exact hb g' hg'.2 (fun e => by have := hol g' e; have := hg'.1; omega) (by have := hg'.1; omega)
  · have hsz2 : w1.heap.size ≤ (w2.setCell ⟨t, 0, none⟩ v').heap.size := hsv.size
    rcases hg' with hg' | hg'
    · have := h.sin g' hg'; omega
    · omega
  · rcases hown g' hg' with e1 | e1
    · refine ⟨(h.own g' e1).1, ?_⟩
      rintro (h1 | h1)
      · exact (h.own g' e1).2 h1
      · have := hol g' e1; omega
    · refine ⟨by omega, ?_⟩
      rintro (h1 | h1)
      · have := h.sin g' h1; omega
      · omega
  · refine (h.sv.then hs).trans hsv fun q hq => ?_
    rcases hq with hq | rfl
    · have := (h.own q hq).1; have := h.tw; exact .inr (by omega)
    · exact .inr h.tw
  · have := h.few; have := hrd.hk; simp; omega
/-- The struct in the making, behind the append. -/
theorem LsAt.mid {w0 w wr w1 w2 : World} {r m t d k : Nat} {L : List Tok} {e : Int} {acc : List Flt} {s : Value} {vs : List Value} {S : Nat → Prop} (h : LsAt w0 w wr r m t d k L e acc s vs S) (hs : Sav (fun q => q = r) wr w1) {o : Obj} (g : (w1.alloc o).grownBy w2 s.ownBlock) :
    w2.cell? ⟨t, 0, none⟩ = some s ∧ w2.cell? ⟨t, 1, none⟩ = some (.bool false) ∧ w2.frozen? ⟨t, 0, none⟩ = false ∧ w2.frozen? ⟨t, 1, none⟩ = false := by
  have hrt : r < t := Nat.lt_of_lt_of_le h.rd.rm h.tm
  have htl : t < wr.heap.size := (Array.getElem?_eq_some_iff.1 h.ts).1
  have hw1 : wr.heap.size ≤ w1.heap.size := hs.size
  have hsz : (w1.alloc o).heap.size = w1.heap.size + 1 := by simp
  have ht1 : w1.heap[t]? = some (.cells #[s, .bool false] 83 (0, 0)) := (hs.block t htl (fun e => by omega)).trans h.ts
  have hot : s.ownBlock ≠ some t := fun e => by have := (h.own t e).1; omega
  have hb : w2.heap[t]? = some (.cells #[s, .bool false] 83 (0, 0)) := by
    rw [g.block t (by omega) (fun e => hot e.symm)]
    exact (((Gr.refl w1).alloc o).block (Nat.lt_of_lt_of_le htl hw1)).trans ht1
  refine ⟨cell_of_row _ _ 0 _ _ _ hb, cell_of_row _ _ 1 _ _ _ hb, ?_, ?_⟩
  · unfold World.frozen?; simp [hb]
  · unfold World.frozen?; simp [hb]
/-- All of it, behind the last parenthesis. -/
theorem LsAt.whole {w0 w wr w' : World} {r m t d k k' : Nat} {L : List Tok} {e : Int} {acc : List Flt} {s : Value} {vs : List Value} {S : Nat → Prop} (h : LsAt w0 w wr r m t d k L e acc s vs S) (ha : 0 < acc.length) (hs : Sav (fun q => q = r) wr w') (hrd : Rd w0 w' r m L k' e) (o : Bool) :
    PAns w0 w (w'.setCell ⟨t, 1, none⟩ (.bool o)) r m (d + 1) L e (.returned (.tuple #[.iface 83 (.agg #[s, .bool o]), .nilIface])) (.ok (.many acc o) (L.drop k')) := by
  have hrt : r < t := Nat.lt_of_lt_of_le h.rd.rm h.tm
  have htl : t < wr.heap.size := (Array.getElem?_eq_some_iff.1 h.ts).1
  have hw1 : wr.heap.size ≤ w'.heap.size := hs.size
  have hsv : Sav (fun q => q = t) w' (w'.setCell ⟨t, 1, none⟩ (.bool o)) := Sav.set t 1 _
  have hb : ∀ q, q < wr.heap.size → q ≠ r → q ≠ t → (w'.setCell ⟨t, 1, none⟩ (.bool o)).heap[q]? = wr.heap[q]? := fun q hq h1 h2 => by
    rw [Below.heap_setCell _ _ _ _ (fun e => h2 e)]
    exact hs.block q hq h1
  have hft : w0.heap.size ≤ t := by have := h.rd.fr; omega
  refine ⟨_, k', rfl, rfl, hrd.old (fun q hq => Below.heap_setCell _ _ _ _ (fun e => by have := h.tm; simp only at e; omega)) hsv.size (hrd.gr.setCell hft _), ⟨s, vs, rfl, ?_, fun g hg => ?_, h.len, ha, ?_, fun i hi => ?_⟩, ?_⟩
  · refine Row.same h.row fun g hg => hb g (Row.lt h.row hg) (fun e => ?_) (fun e => ?_)
    · have := (h.own g hg).1; omega
    · have := (h.own g hg).1; omega
  · have := (h.own g hg).1; have := h.tw; omega
  · have := h.few; have := h.rd.hl; omega
  · refine ((h.kids i hi).same (fun g hg => ?_)).mono fun g hg => ?_
    · have h1 := h.sin g hg
      exact hb g h1.2 (by omega) (by omega)
    · have h1 := h.sin g hg; have := h.tw; omega
  · exact (h.sv.then hs).trans hsv fun q hq => .inr (by rw [hq]; exact h.tw)
end Go.Proofs.YthkccohigoejgaaGreatDoor

/-
  A filter as the reference has it; its list in the making: ground.
-/
import Derived.Test.YthkccohigoejgaaGreatDoorFltRB
import Derived.Test.YthkccohigoejgaaGreatDoorRegL
namespace Go.Proofs.YthkccohigoejgaaGreatDoor
open Go Go.RowKit

/-- Block b is a filter of this kind. -/
def RB (w : World) (b : Nat) (k : ByteArray) (i lo hi : Int) (kv : Value) : Prop := w.heap[b]? = some (.cells #[.string k, .int .i64 i, .int .i64 lo, .int .i64 hi, kv] 56 (0, 0))
def isPt (v : Value) : Prop := ∃ a, v = Value.pointer a
def PtRow (w : World) (v : Value) (vs : List Value) : Prop := Row 22 1 isPt w v vs.length vs
def andOr (o : Bool) : ByteArray := if o then kOr else kAnd
/-- v is the filter f; S has all its blocks. -/
def RFl (S : Nat → Prop) : Nat → World → Value → Flt → Prop
  | 0, _, _, _ => False
  | d + 1, w, v, f => ∃ b, v = .pointer (some ⟨b, 0, none⟩) ∧ S b ∧ b < w.heap.size ∧ match f with
    | .any => RB w b kAny 0 0 0 (.slice none 0 0)
    | .test i lo hi => RB w b kTest (i : Int) lo hi (.slice none 0 0) ∧ i < 5 ∧ (0 ≤ lo ∧ lo ≤ 1000000000) ∧ (0 ≤ hi ∧ hi ≤ 1000000000)
    | .has i lo => RB w b kHas (i : Int) lo lo (.slice none 0 0) ∧ i < 5 ∧ (0 ≤ lo ∧ lo ≤ 1000000000)
    | .not g => ∃ s u, RB w b kNot 0 0 0 s ∧ PtRow w s [u] ∧ (∀ g, s.ownBlock = some g → S g) ∧ RFl S d w u g
    | .many l o => ∃ s vs, RB w b (andOr o) 0 0 0 s ∧ PtRow w s vs ∧ (∀ g, s.ownBlock = some g → S g) ∧ vs.length = l.length ∧ 0 < l.length ∧ l.length ≤ 2001 ∧ ∀ i, i < l.length → RFl S d w (vs.getD i (.pointer none)) (l.getD i .any)
theorem RFl.same {S : Nat → Prop} : ∀ {d : Nat} {w w' : World} {v : Value} {f : Flt}, RFl S d w v f → (∀ g, S g → g < w.heap.size → w'.heap[g]? = w.heap[g]?) → w.heap.size ≤ w'.heap.size → RFl S d w' v f
  | 0, _, _, _, _, h, _, _ => h.elim
  | d + 1, w, w', v, f, h, hk, hs => by
    obtain ⟨b, h1, h2, h3, h4⟩ := h
    have hb := hk b h2 h3
    refine ⟨b, h1, h2, Nat.lt_of_lt_of_le h3 hs, ?_⟩
    cases f with
    | any => exact hb.trans h4
    | test i lo hi => exact ⟨hb.trans h4.1, h4.2⟩
    | has i lo => exact ⟨hb.trans h4.1, h4.2⟩
    | not g =>
      obtain ⟨s, u, k1, k2, k3, k4⟩ := h4
      exact ⟨s, u, hb.trans k1, Row.same k2 fun g hg => hk g (k3 g hg) (Row.lt k2 hg), k3, k4.same hk hs⟩
    | many l o =>
      obtain ⟨s, vs, k1, k2, k3, k4, k5, k6, k7⟩ := h4
      exact ⟨s, vs, hb.trans k1, Row.same k2 fun g hg => hk g (k3 g hg) (Row.lt k2 hg), k3, k4, k5, k6, fun i hi => (k7 i hi).same hk hs⟩
theorem RFl.mono {S S' : Nat → Prop} : ∀ {d : Nat} {w : World} {v : Value} {f : Flt}, RFl S d w v f → (∀ g, S g → g < w.heap.size → S' g) → RFl S' d w v f
  | 0, _, _, _, h, _ => h.elim
  | d + 1, w, v, f, h, hS => by
    obtain ⟨b, h1, h2, h3, h4⟩ := h
    refine ⟨b, h1, hS b h2 h3, h3, ?_⟩
    cases f with
    | any => exact h4
    | test i lo hi => exact h4
    | has i lo => exact h4
    | not g =>
      obtain ⟨s, u, k1, k2, k3, k4⟩ := h4
      exact ⟨s, u, k1, k2, fun g hg => hS g (k3 g hg) (Row.lt k2 hg), k4.mono hS⟩
    | many l o =>
      obtain ⟨s, vs, k1, k2, k3, k4, k5, k6, k7⟩ := h4
      exact ⟨s, vs, k1, k2, fun g hg => hS g (k3 g hg) (Row.lt k2 hg), k4, k5, k6, fun i hi => (k7 i hi).mono hS⟩
theorem RFl.ptr {S : Nat → Prop} : ∀ {d : Nat} {w : World} {v : Value} {f : Flt}, RFl S d w v f → ∃ b, v = .pointer (some ⟨b, 0, none⟩)
  | 0, _, _, _, h => h.elim
  | d + 1, w, v, f, h => by obtain ⟨b, h1, _⟩ := h; exact ⟨b, h1⟩
/-- What a reading leaves: a filter, or a fault told. -/
def Kid (w0 : World) (p m d : Nat) (e : Int) (S : Nat → Prop) (v : Value) (u : World) : PR → Prop
  | .ok f R => RFl S d u v f ∧ ∃ pl, RP w0 u p m R e 0 pl
  | .err c R => isPt v ∧ c ≠ 0 ∧ ∃ R', RP w0 u p m R' e c (placeOf e R)
theorem Kid.pt {w0 u : World} {p m d : Nat} {e : Int} {S : Nat → Prop} {v : Value} {pr : PR} (h : Kid w0 p m d e S v u pr) : isPt v := by
  cases pr with
  | ok f R => obtain ⟨b, hb⟩ := h.1.ptr; exact ⟨_, hb⟩
  | err c R => exact h.1
theorem Kid.mono {w0 u : World} {p m d : Nat} {e : Int} {S S' : Nat → Prop} {v : Value} {pr : PR} (h : Kid w0 p m d e S v u pr) (hS : ∀ g, S g → g < u.heap.size → S' g) : Kid w0 p m d e S' v u pr := by
  cases pr with
  | ok f R => exact ⟨h.1.mono hS, h.2⟩
  | err c R => exact h
theorem Kid.keep {w0 u u' : World} {p m d : Nat} {e : Int} {S B : Nat → Prop} {v : Value} {pr : PR} (h : Kid w0 p m d e S v u pr) (k : Sav B u u') (hS : ∀ g, S g → ¬ B g) (hm : ∀ g, B g → m ≤ g) (g : Gr w0 u') : Kid w0 p m d e S v u' pr := by
  have hrp : ∀ {R : List Tok} {c pl : Int}, RP w0 u p m R e c pl → RP w0 u' p m R e c pl := fun h => h.old (fun q hq => k.block q (Nat.lt_of_lt_of_le hq h.ms) fun e => by have := hm q e; omega) k.size g
  cases pr with
  | ok f R =>
    obtain ⟨h1, pl, h2⟩ := h
    exact ⟨h1.same (fun g hg hl => k.block g hl (hS g hg)) k.size, pl, hrp h2⟩
  | err c R =>
    obtain ⟨h1, h3, R', h2⟩ := h
    exact ⟨h1, h3, R', hrp h2⟩
theorem Kid.gr {w0 u u' : World} {p m d : Nat} {e : Int} {S : Nat → Prop} {v : Value} {pr : PR} (h : Kid w0 p m d e S v u pr) (k : Gr u u') (g : Gr w0 u') : Kid w0 p m d e S v u' pr := h.keep (B := fun _ => False) (.of_gr k) (fun _ _ h => h) (fun _ h => h.elim) g
/-- How a reading ends. -/
def RAns (w0 w w' : World) (p m d : Nat) (e : Int) (E : Ending) (pr : PR) : Prop := ∃ v, E = .returned v ∧ Kid w0 p m d e (fun g => w.heap.size ≤ g) v w' pr ∧ Sav (fun q => q = p) w w'
theorem RAns.from {w0 w w1 w' : World} {p m d : Nat} {e : Int} {E : Ending} {pr : PR} (s : Sav (fun q => q = p) w w1) (h : RAns w0 w1 w' p m d e E pr) : RAns w0 w w' p m d e E pr := by
  obtain ⟨v, h1, h2, h3⟩ := h
  exact ⟨v, h1, h2.mono (fun g hg _ => Nat.le_trans s.size hg), s.then h3⟩
/-- So far: the filters acc, in the making at block b. -/
structure RLs (w0 w wr : World) (p m b d : Nat) (L : List Tok) (e pl : Int) (acc : List Flt) (s : Value) (vs : List Value) (S : Nat → Prop) : Prop where
  rp : RP w0 wr p m L e 0 pl
  ts : RB wr b kAnd 0 0 0 s
  row : PtRow wr s vs
  len : vs.length = acc.length
  kids : ∀ i, i < acc.length → RFl S d wr (vs.getD i (.pointer none)) (acc.getD i .any)
  sin : ∀ g, S g → b < g ∧ g < wr.heap.size
  own : ∀ g, s.ownBlock = some g → b < g ∧ ¬ S g
  tm : m ≤ b
  tw : w.heap.size ≤ b
  sv : Sav (fun q => q = p) w wr
  few : acc.length + L.length ≤ 2001
section
variable {w : World} {b : Nat} {k : ByteArray} {i lo hi : Int} {kv : Value}
theorem RB.gr {w' : World} (h : RB w b k i lo hi kv) (g : Gr w w') : RB w' b k i lo hi kv := (g.block (Array.getElem?_eq_some_iff.1 h).1).trans h
theorem RB.lt (h : RB w b k i lo hi kv) : b < w.heap.size := (Array.getElem?_eq_some_iff.1 h).1
theorem RB.sav {w' : World} {B : Nat → Prop} (h : RB w b k i lo hi kv) (g : Sav B w w') (hb : ¬ B b) : RB w' b k i lo hi kv := (g.block b h.lt hb).trans h
theorem RB.c0 (h : RB w b k i lo hi kv) : w.cell? ⟨b, 0, none⟩ = some (.string k) := cell_of_row _ _ 0 _ _ _ h
theorem RB.c1 (h : RB w b k i lo hi kv) : w.cell? ⟨b, 1, none⟩ = some (.int .i64 i) := cell_of_row _ _ 1 _ _ _ h
theorem RB.c2 (h : RB w b k i lo hi kv) : w.cell? ⟨b, 2, none⟩ = some (.int .i64 lo) := cell_of_row _ _ 2 _ _ _ h
theorem RB.c3 (h : RB w b k i lo hi kv) : w.cell? ⟨b, 3, none⟩ = some (.int .i64 hi) := cell_of_row _ _ 3 _ _ _ h
theorem RB.c4 (h : RB w b k i lo hi kv) : w.cell? ⟨b, 4, none⟩ = some kv := cell_of_row _ _ 4 _ _ _ h
theorem RB.fz (h : RB w b k i lo hi kv) (j : Nat) : w.frozen? ⟨b, j, none⟩ = false := by
  unfold World.frozen?
  have : w.heap[b]? = _ := h
  simp [this]
theorem rheap_set (h : RB w b k i lo hi kv) (j : Nat) (v : Value) : (w.setCell ⟨b, j, none⟩ v).heap[b]? = some (.cells (#[Value.string k, .int .i64 i, .int .i64 lo, .int .i64 hi, kv].set! j v) 56 (0, 0)) := by
  have e : w.heap[b]? = _ := h
  simp [World.setCell, Array.getElem?_modify, e]
theorem RB.s0 (h : RB w b k i lo hi kv) (x : ByteArray) : RB (w.setCell ⟨b, 0, none⟩ (.string x)) b x i lo hi kv := rheap_set h 0 _
theorem RB.s2 (h : RB w b k i lo hi kv) (x : Int) : RB (w.setCell ⟨b, 2, none⟩ (.int .i64 x)) b k i x hi kv := rheap_set h 2 _
theorem RB.s3 (h : RB w b k i lo hi kv) (x : Int) : RB (w.setCell ⟨b, 3, none⟩ (.int .i64 x)) b k i lo x kv := rheap_set h 3 _
theorem RB.s4 (h : RB w b k i lo hi kv) (x : Value) : RB (w.setCell ⟨b, 4, none⟩ x) b k i lo hi x := rheap_set h 4 _
theorem RB.new (w : World) (k : ByteArray) (i lo hi : Int) (kv : Value) : RB (w.alloc (.cells #[.string k, .int .i64 i, .int .i64 lo, .int .i64 hi, kv] 56)) w.heap.size k i lo hi kv := heap_alloc_new w _
end
/-- One filter more. -/
theorem RLs.more {w0 w wr w5 : World} {p m b d : Nat} {L R : List Tok} {e pl pl' : Int} {acc : List Flt} {s z v : Value} {vs : List Value} {S S2 : Nat → Prop} {f : Flt} (h : RLs w0 w wr p m b d L e pl acc s vs S)
    (sv : Sav (fun q => q = p ∨ s.ownBlock = some q) wr w5) (hrp : RP w0 w5 p m R e 0 pl') (hv : RFl S2 d w5 v f) (hS2 : ∀ g, S2 g → wr.heap.size ≤ g ∧ g < w5.heap.size) (row : PtRow w5 z (vs ++ [v]))
    (o1 : ∀ g, z.ownBlock = some g → s.ownBlock = some g ∨ wr.heap.size ≤ g) (o2 : ∀ g, z.ownBlock = some g → ¬ S2 g) (hR : R.length < L.length) :
    RLs w0 w (w5.setCell ⟨b, 4, none⟩ z) p m b d R e pl' (acc ++ [f]) z (vs ++ [v]) (fun g => S g ∨ S2 g) := by
  have hpb : p < b := Nat.lt_of_lt_of_le h.rp.rm h.tm
  have hbl : b < wr.heap.size := h.ts.lt
  have hw5 : wr.heap.size ≤ w5.heap.size := sv.size
  have hol : ∀ g, s.ownBlock = some g → g < wr.heap.size := fun g hg => Row.lt h.row hg
  have hnb : ¬ (b = p ∨ s.ownBlock = some b) := fun e => e.elim (fun e => by omega) (fun e => by have := (h.own b e).1; omega)
  have hts : RB w5 b kAnd 0 0 0 s := h.ts.sav sv hnb
  have hsv : Sav (fun q => q = p ∨ s.ownBlock = some q ∨ q = b) wr (w5.setCell ⟨b, 4, none⟩ z) := (sv.mono fun q e => e.imp id .inl).then (Sav.setCell (B := fun q => q = p ∨ s.ownBlock = some q ∨ q = b) (p := ⟨b, 4, none⟩) (.inr (.inr rfl)) z)
  have k1 : Sav (fun q => q = b) w5 (w5.setCell ⟨b, 4, none⟩ z) := Sav.set b 4 z
  have hzb : z.ownBlock ≠ some b := fun e => (o1 b e).elim (fun e => hnb (.inr e)) (fun e => by omega)
  have hfr := h.rp.fr
  refine ⟨hrp.old (fun q hq => k1.block q (Nat.lt_of_lt_of_le hq hrp.ms) (fun e => by have := h.tm; omega)) k1.size (k1.gr hrp.gr fun q hq => by rw [hq]; omega), hts.s4 z, Row.sav row k1 (fun g hg e => hzb (by rw [hg, e])), by simp [h.len], fun i hi => ?_, fun g hg => ?_, fun g hg => ?_, h.tm, h.tw, ?_, ?_⟩
  · by_cases hi2 : i < acc.length
    · have e1 : (vs ++ [v]).getD i (.pointer none) = vs.getD i (.pointer none) := by simp [List.getD_eq_getElem?_getD, List.getElem?_append_left (by rw [h.len]; exact hi2)]
      have e2 : (acc ++ [f]).getD i .any = acc.getD i .any := by simp [List.getD_eq_getElem?_getD, List.getElem?_append_left hi2]
      rw [e1, e2]
      refine ((h.kids i hi2).same (fun g hg hl => hsv.block g hl (fun e => ?_)) hsv.size).mono fun g hg _ => .inl hg
      have h1 := h.sin g hg
      rcases e with e | e | e
      · omega
      · exact (h.own g e).2 hg
      · omega
    · have hie : i = acc.length := by simp at hi; omega
      subst hie
      have e1 : (vs ++ [v]).getD acc.length (.pointer none) = v := by rw [← h.len]; simp [List.getD_eq_getElem?_getD]
      have e2 : (acc ++ [f]).getD acc.length .any = f := by simp [List.getD_eq_getElem?_getD]
      rw [e1, e2]
      exact (hv.same (fun g hg hl => k1.block g hl (fun e => by have := (hS2 g hg).1; omega)) k1.size).mono fun g hg _ => .inr hg
  · have hsz := k1.size
    rcases hg with hg | hg
    · have := h.sin g hg; omega
    · have := hS2 g hg; omega
  · rcases o1 g hg with e1 | e1
    · exact ⟨(h.own g e1).1, fun h1 => h1.elim (h.own g e1).2 (o2 g hg)⟩
    · exact ⟨by omega, fun h1 => h1.elim (fun h1 => by have := h.sin g h1; omega) (o2 g hg)⟩
  · refine h.sv.trans hsv fun q hq => ?_
    rcases hq with hq | hq | hq
    · exact .inl hq
    · have := (h.own q hq).1; have := h.tw; exact .inr (by omega)
    · rw [hq]; exact .inr h.tw
  · have := h.few; simp; omega
/-- .. behind a word. -/
theorem RLs.took {w0 w wr w' : World} {p m b d : Nat} {L L' : List Tok} {e pl pl' : Int} {acc : List Flt} {s : Value} {vs : List Value} {S : Nat → Prop} (h : RLs w0 w wr p m b d L e pl acc s vs S) (hs : Sav (fun q => q = p) wr w') (hrp : RP w0 w' p m L' e 0 pl') (hl : L'.length ≤ L.length) : RLs w0 w w' p m b d L' e pl' acc s vs S := by
  have hpb : p < b := Nat.lt_of_lt_of_le h.rp.rm h.tm
  refine ⟨hrp, h.ts.sav hs (fun e => by omega), Row.sav h.row hs fun g hg e => ?_, h.len, fun i hi => (h.kids i hi).same (fun g hg hl => hs.block g hl (fun e => ?_)) hs.size, fun g hg => ⟨(h.sin g hg).1, Nat.lt_of_lt_of_le (h.sin g hg).2 hs.size⟩, h.own, h.tm, h.tw, h.sv.then hs, by have := h.few; omega⟩
  · have := (h.own g hg).1; omega
  · have := (h.sin g hg).1; omega
/-- All of it, behind the last parenthesis. -/
theorem RLs.whole {w0 w wr w' : World} {p m b d : Nat} {L L' : List Tok} {e pl pl' : Int} {acc : List Flt} {s : Value} {vs : List Value} {S : Nat → Prop} (h : RLs w0 w wr p m b d L e pl acc s vs S) (ha : 0 < acc.length) (hs : Sav (fun q => q = p ∨ q = b) wr w') (hrp : RP w0 w' p m L' e 0 pl') (o : Bool) (hb : RB w' b (andOr o) 0 0 0 s) :
    Kid w0 p m (d + 1) e (fun g => w.heap.size ≤ g) (.pointer (some ⟨b, 0, none⟩)) w' (.ok (.many acc o) L') ∧ Sav (fun q => q = p) w w' := by
  have hpb : p < b := Nat.lt_of_lt_of_le h.rp.rm h.tm
  refine ⟨⟨⟨b, rfl, h.tw, hb.lt, s, vs, hb, Row.sav h.row hs fun g hg e => ?_, fun g hg => ?_, h.len, ha, by have := h.few; omega, fun i hi => ?_⟩, pl', hrp⟩, h.sv.trans hs fun q hq => hq.imp id fun e => by rw [e]; exact h.tw⟩
  · have := (h.own g hg).1; rcases e with e | e <;> omega
  · have := (h.own g hg).1; have := h.tw; omega
  · refine ((h.kids i hi).same (fun g hg hl => hs.block g hl (fun e => ?_)) hs.size).mono fun g hg _ => ?_
    · have := (h.sin g hg).1; rcases e with e | e <;> omega
    · have := (h.sin g hg).1; have := h.tw; omega
/-- .. a fault is told. -/
structure RErr (w0 w wr : World) (p m b : Nat) (L : List Tok) (e c pl : Int) (s : Value) : Prop where
  rp : RP w0 wr p m L e c pl
  ne : c ≠ 0
  ts : RB wr b kAnd 0 0 0 s
  tm : m ≤ b
  tw : w.heap.size ≤ b
  sv : Sav (fun q => q = p) w wr
theorem RLs.fell {w0 w wr w5 : World} {p m b d : Nat} {L R' : List Tok} {e pl pl' c : Int} {acc : List Flt} {s : Value} {vs : List Value} {S : Nat → Prop} (h : RLs w0 w wr p m b d L e pl acc s vs S)
    (sv : Sav (fun q => q = p ∨ s.ownBlock = some q) wr w5) (hrp : RP w0 w5 p m R' e c pl') (hc : c ≠ 0) (z : Value) : RErr w0 w (w5.setCell ⟨b, 4, none⟩ z) p m b R' e c pl' z := by
  have hpb : p < b := Nat.lt_of_lt_of_le h.rp.rm h.tm
  have hnb : ¬ (b = p ∨ s.ownBlock = some b) := fun e => e.elim (fun e => by omega) (fun e => by have := (h.own b e).1; omega)
  have hts : RB w5 b kAnd 0 0 0 s := h.ts.sav sv hnb
  have k1 : Sav (fun q => q = b) w5 (w5.setCell ⟨b, 4, none⟩ z) := Sav.set b 4 z
  have hfr := h.rp.fr
  have hsv : Sav (fun q => q = p ∨ s.ownBlock = some q ∨ q = b) wr (w5.setCell ⟨b, 4, none⟩ z) := (sv.mono fun q e => e.imp id .inl).then (k1.mono fun q e => .inr (.inr e))
  refine ⟨hrp.old (fun q hq => k1.block q (Nat.lt_of_lt_of_le hq hrp.ms) (fun e => by have := h.tm; omega)) k1.size (k1.gr hrp.gr fun q hq => by rw [hq]; omega), hc, hts.s4 z, h.tm, h.tw, h.sv.trans hsv fun q hq => ?_⟩
  rcases hq with hq | hq | hq
  · exact .inl hq
  · have := (h.own q hq).1; have := h.tw; exact .inr (by omega)
  · rw [hq]; exact .inr h.tw
/-- how much is left -/
def mesR (w : World) (p : Nat) : Nat :=
  if intOf ((w.cell? ⟨p, 2, none⟩).getD undef) = 0 then (match w.cell? ⟨p, 0, none⟩ with | some (.slice _ n _) => n | _ => 0) + 1 else 0
theorem RP.mes {w0 w : World} {p m : Nat} {L : List Tok} {e pl : Int} (h : RP w0 w p m L e 0 pl) : mesR w p = L.length + 1 := by
  obtain ⟨a, k, h1, _⟩ := h.ls
  unfold mesR
  rw [h.c2, h1]
  rfl
theorem RP.mesE {w0 w : World} {p m : Nat} {L : List Tok} {e c pl : Int} (h : RP w0 w p m L e c pl) (hc : c ≠ 0) : mesR w p = 0 := by
  unfold mesR
  rw [h.c2]
  exact if_neg hc
theorem ptInfo : (Tryz.prog.info? 22).map (fun i => (i.zero, i.size, i.bytes)) = some (some (.pointer none), 1, 8) := by kernel_rfl
theorem PtRow.app {w : World} {v : Value} {vs : List Value} {g c : Nat} {x : Value} (h : PtRow w v vs) (hx : isPt x) (hg : w.cell? ⟨g, 0, none⟩ = some x) (hn : vs.length ≤ 999999) :
    ∃ v' w', (Builtin.append_ #[54, 54] 54 #[v, .slice (some ⟨g, 0, none⟩) 1 c]).run Tryz.prog w = .ok v' w' ∧ PtRow w' v' (vs ++ [x]) ∧ w.grownBy w' v.ownBlock ∧ (∀ g, v'.ownBlock = some g → v.ownBlock = some g ∨ w.heap.size ≤ g) ∧ PtRow w' v vs := by
  obtain ⟨a, rfl⟩ := hx
  obtain ⟨i0, hi, hz0, hz1, hz2⟩ := info_parts ptInfo
  obtain ⟨v', w', h1, h2, h3, h4, h5⟩ := Row.appendN (P := Tryz.prog) 54 54 i0 (.pointer none) 8 Tryz.underlying54 hi hz0 hz1 hz2 rfl (by intro u hu; simp [Value.cells] at hu; exact ⟨_, hu⟩) h ⟨g, 0, none⟩ c 1 (by omega) [.pointer a] rfl (by intro j u hu; match j, hu with | 0, hu => (rw [← Option.some.inj hu]; exact hg) | j + 1, hu => simp at hu) (by intro u hu; simp at hu; subst hu; rfl) (by intro u hu; simp at hu; exact ⟨_, hu⟩) (by omega) (by decide)
  exact ⟨v', w', h1, by unfold PtRow; simpa using h2, h3, h4, h5⟩
section
variable {ev : Operand → Value} {o : Oper} {w : World} {x y z : Operand} {u : Value}
theorem f_fa4 {p : Nat} (ho : o.op = .fieldAddr 56 x 4) (h : ev x = .pointer (some ⟨p, 0, none⟩)) : (execOp ev o).run Tryz.prog w = .ok (.value (.pointer (some ⟨p, 4, none⟩))) w := by simp [execOp, ho, h, go_sem]
theorem f_load {ad : Addr} {a : Option Addr} {n c : Nat} (ho : o.op = .load 54 x) (h : ev x = .pointer (some ad)) (hc : w.cell? ad = some (.slice a n c)) : (execOp ev o).run Tryz.prog w = .ok (.value (.slice a n c)) w := by simp [execOp, ho, h, hc, go_sem]
theorem f_add {m r : Int} (ho : o.op = .binOp .add 3 x y 3) (h : ev x = .int .i64 m) (k : ev y = .int .i64 1) (hb : IntKind.i64.wrap (m + 1) = r) : (execOp ev o).run Tryz.prog w = .ok (.value (.int .i64 r)) w := by
  subst hb
  simp [execOp, ho, h, k, go_sem]
theorem f_build {a : Option Addr} (ho : o.op = .buildSlice 54 1 #[(0, y)]) (h : ev y = .pointer a) : (execOp ev o).run Tryz.prog w = .ok (.value (.slice (some ⟨w.heap.size, 0, none⟩) 1 1)) (w.alloc (.cells #[.pointer a] 22)) := by simp [execOp, ho, h, go_sem]
theorem f_call {v u : Value} (ho : o.op = .call { callee := .value (.func 10), args := #[x, y], argTypes := #[38, 3] }) (hf : ev (.func 10) = .func (.func 10) #[] #[]) (h : ev x = v) (k : ev y = u) : (execOp ev o).run Tryz.prog w = .ok (.enter 10 #[v, u]) w := by
  simp [execOp, ho, hf, h, k, resolve, invoke, go_sem]
end
section
variable {P : Program} {ops : Array Oper} {n : Nat} {fs : List Fv} {I : Bool → World → Prop} {c : Nat} {a0 : Act} {L : Nat → Prop} {i : Nat} {o : Oper} {a : Act} {w w' : World} {Q : Exit → Act → World → Prop} {u : Value}
/-- The call that turns it; what is through is kept. -/
theorem lstep_callL {f : FuncId} {args : Array Value} (hA : LAt ops n fs I c a0 L i a w) (hic : i = c) (hr : (execOp a.eval o).run P w = .ok (.enter f args) w) (hc : I false w → Calls P f args w (fun e w' => ∃ v, e = .returned v ∧ I true w' ∧ (∀ f, f i = got o v → (fvAt fs i).p f w') ∧ ∀ j, L j → (fvAt fs j).p (valOf ops a) w → (fvAt fs j).p (valOf ops a) w')) : Oper.wp P o a w (LPost ops fs I c L i o a w) Q := by
  unfold Oper.wp
  rw [hr]
  show Calls P f args w _
  refine (hc (hA.no (fun h => hA.self (by rw [hic]; exact h)))).mono ?_
  rintro e w' ⟨v, rfl, hI, hk, hkeep⟩
  exact ⟨v, rfl, ⟨fun _ => hI, fun h => absurd (.inl hic) h⟩, fun f hf _ => hk f hf, fun j hj h => hkeep j hj h⟩
end
/-- What the call left. -/
def Fg.kid (w0 : World) (p m d n : Nat) (e : Int) (pr : PR) : Fg := ⟨fun v u => Kid w0 p m d e (fun g => n ≤ g) v u pr ∧ Gr w0 u, fun _ _ _ ⟨h1, h2⟩ k => ⟨h1.gr k (h2.trans k), h2.trans k⟩⟩
def Fg.kidS (w0 : World) (p m d n : Nat) (e : Int) (pr : PR) : Fg := ⟨fun v u => (∃ g x, v = .slice (some ⟨g, 0, none⟩) 1 1 ∧ n ≤ g ∧ u.cell? ⟨g, 0, none⟩ = some x ∧ Kid w0 p m d e (fun g => n ≤ g) x u pr) ∧ Gr w0 u, fun _ _ _ ⟨⟨g, x, h1, h2, h3, h4⟩, h5⟩ k => ⟨⟨g, x, h1, h2, k.cell h3, h4.gr k (h5.trans k)⟩, h5.trans k⟩⟩
def Fg.kidR (w0 : World) (p m d n : Nat) (e : Int) (pr : PR) (s : Value) (vs : List Value) : Fg := ⟨fun v u => (∃ (x : Value) (S2 : Nat → Prop), PtRow u v (vs ++ [x]) ∧ (∀ g, v.ownBlock = some g → s.ownBlock = some g ∨ n ≤ g) ∧ Kid w0 p m d e S2 x u pr ∧ (∀ g, S2 g → n ≤ g ∧ g < u.heap.size) ∧ ∀ g, v.ownBlock = some g → ¬ S2 g) ∧ Gr w0 u,
  fun _ _ _ ⟨⟨x, S2, h1, h2, h3, h4, h5⟩, h6⟩ k => ⟨⟨x, S2, Row.gr h1 k, h2, h3.gr k (h6.trans k), fun g hg => ⟨(h4 g hg).1, Nat.lt_of_lt_of_le (h4 g hg).2 k.size⟩, h5⟩, h6.trans k⟩⟩
end Go.Proofs.YthkccohigoejgaaGreatDoor

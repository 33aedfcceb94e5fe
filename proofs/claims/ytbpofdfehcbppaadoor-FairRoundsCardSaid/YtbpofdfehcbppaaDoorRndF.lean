/-
  The reference's Rounds: its cells; in the midst of a call; of, When, All. (Printed by genrnd.py.)
-/
import Derived.Test.YtbpofdfehcbppaaDoorRndE
import Derived.Test.YtbpofdfehcbppaaDoorFifoR
import Derived.Test.YtbpofdfehcbppaaDoorMapI
namespace Go.Proofs.YtbpofdfehcbppaaDoor
open Go.RowKit Go.Extern.Stop Go.Stop Go.Extern

theorem Ints.savR {w w' : World} {v : Value} {xs : List Int} {B : Nat → Prop} (h : Ints w v xs) (k : Sav B w w') (hv : ∀ g, v.ownBlock = some g → ¬ B g) : Ints w' v xs := by
  rcases h with h | ⟨b, off, cap, h1, h2, h3, h4⟩
  · exact .inl h
  · exact .inr ⟨b, off, cap, h1, h2, h3, fun i hi => k.cell (h4 i hi) (hv b (by rw [h1]; rfl))⟩
/-- What it holds: the rows' slices, the packets, the turns, has the first one its quantum, the credits, whose stands there, how many at most. -/
structure RRV where
  lv : Value
  tv : Value
  l : List Hel
  turn : List Int
  begun : Bool
  f : Int → Int
  g : Int → Bool
  mn : Nat
/-- What it may write. -/
def RRFoot (p mb : Nat) (s : RRV) (g : Nat) : Prop := g = p ∨ g = mb ∨ s.lv.ownBlock = some g ∨ s.tv.ownBlock = some g
/-- A Rounds of the reference's at p; its credits at mb; its quanta are older than block N0. -/
structure RRC (w : World) (N0 p mb : Nat) (room : Int) (zv : Value) (zs : List Int) (s : RRV) : Prop where
  c0 : w.cell? ⟨p, 0, none⟩ = some (.int .i64 room)
  c1 : w.cell? ⟨p, 1, none⟩ = some zv
  c2 : w.cell? ⟨p, 2, none⟩ = some s.lv
  c3 : w.cell? ⟨p, 3, none⟩ = some s.tv
  c4 : w.cell? ⟨p, 4, none⟩ = some (.bool s.begun)
  c5 : w.cell? ⟨p, 5, none⟩ = some (.map (some mb))
  free : ∀ j, w.frozen? ⟨p, j, none⟩ = false
  row : RowH 108 w s.lv s.l
  turn : IntRow w s.tv s.turn
  zs : Ints w zv zs
  map : MapI w mb s.mn s.f s.g
  ap : ∀ g, s.lv.ownBlock = some g → g ≠ p ∧ g ≠ mb ∧ s.tv.ownBlock ≠ some g
  tp : ∀ g, s.tv.ownBlock = some g → g ≠ p ∧ g ≠ mb
  mp : mb ≠ p
  zlo : ∀ g, zv.ownBlock = some g → g < N0
  flo : ∀ g, RRFoot p mb s g → N0 ≤ g
section
variable {w w' : World} {N0 p mb : Nat} {room : Int} {zv : Value} {zs : List Int} {s : RRV}
theorem RRC.lt (h : RRC w N0 p mb room zv zs s) : p < w.heap.size := cell_lt h.c0
theorem RRC.flt (h : RRC w N0 p mb room zv zs s) {g : Nat} (hg : RRFoot p mb s g) : g < w.heap.size := by
  rcases hg with e | e | e | e
  · rw [e]; exact h.lt
  · rw [e]; exact h.map.lt
  · exact h.row.lt e
  · exact Row.lt h.turn e
theorem RRC.sav {B : Nat → Prop} (h : RRC w N0 p mb room zv zs s) (k : Sav B w w') (hB : ∀ g, B g → N0 ≤ g ∧ ¬ RRFoot p mb s g) : RRC w' N0 p mb room zv zs s :=
  have hp : ¬ B p := fun e => (hB _ e).2 (.inl rfl)
  ⟨k.cell h.c0 hp, k.cell h.c1 hp, k.cell h.c2 hp, k.cell h.c3 hp, k.cell h.c4 hp, k.cell h.c5 hp, fun j => k.frozen (p := ⟨p, j, none⟩) h.lt (h.free j) hp, h.row.sav k (fun _ hg e => (hB _ e).2 (.inr (.inr (.inl hg)))), Row.sav h.turn k (fun _ hg e => (hB _ e).2 (.inr (.inr (.inr hg)))), h.zs.savR k (fun g hg e => by have h1 := (hB g e).1; have h2 := h.zlo g hg; omega), h.map.sav k (fun e => (hB _ e).2 (.inr (.inl rfl))), h.ap, h.tp, h.mp, h.zlo, h.flo⟩
theorem RRC.gr (h : RRC w N0 p mb room zv zs s) (g : Gr w w') : RRC w' N0 p mb room zv zs s := h.sav (B := fun _ => False) (.of_gr g) (fun _ e => e.elim)
def RRV.setB (s : RRV) (x : Bool) : RRV := { s with begun := x }
def RRV.setT (s : RRV) (v : Value) (t : List Int) : RRV := { s with tv := v, turn := t }
def RRV.setL (s : RRV) (v : Value) (l : List Hel) : RRV := { s with lv := v, l := l }
def RRV.setM (s : RRV) (k x : Int) (n : Nat) : RRV := { s with f := fI s.f k x, g := fI s.g k true, mn := n }
theorem RRC.setB (h : RRC w N0 p mb room zv zs s) (x : Bool) : RRC (w.setCell ⟨p, 4, none⟩ (.bool x)) N0 p mb room zv zs (s.setB x) :=
  have k : Sav (fun g => g = p) w (w.setCell ⟨p, 4, none⟩ (.bool x)) := .set p 4 _
  have hlo : N0 ≤ p := h.flo p (.inl rfl)
  ⟨cell_so h.c0 (by simp), cell_so h.c1 (by simp), cell_so h.c2 (by simp), cell_so h.c3 (by simp), cell_ss h.c4, cell_so h.c5 (by simp), fun j => by simpa using h.free j, h.row.sav k (fun g hg e => (h.ap g hg).1 e), Row.sav h.turn k (fun g hg e => (h.tp g hg).1 e), h.zs.savR k (fun g hg e => by have := h.zlo g hg; omega), h.map.sav k h.mp, h.ap, h.tp, h.mp, h.zlo, h.flo⟩
theorem RRC.setM (h : RRC w N0 p mb room zv zs s) (k : Sav (fun g => g = mb) w w') (x y : Int) (n : Nat) (hm : MapI w' mb n (fI s.f x y) (fI s.g x true)) : RRC w' N0 p mb room zv zs (s.setM x y n) :=
  have hlo : N0 ≤ mb := h.flo mb (.inr (.inl rfl))
  have hp : ¬ p = mb := fun e => h.mp e.symm
  ⟨k.cell h.c0 hp, k.cell h.c1 hp, k.cell h.c2 hp, k.cell h.c3 hp, k.cell h.c4 hp, k.cell h.c5 hp, fun j => k.frozen (p := ⟨p, j, none⟩) h.lt (h.free j) hp, h.row.sav k (fun g hg e => (h.ap g hg).2.1 e), Row.sav h.turn k (fun g hg e => (h.tp g hg).2 e), h.zs.savR k (fun g hg e => by have := h.zlo g hg; omega), hm, h.ap, h.tp, h.mp, h.zlo, h.flo⟩
theorem RRC.setT {tv' : Value} {t' : List Int} (h : RRC w N0 p mb room zv zs s) (k : Sav (fun g => s.tv.ownBlock = some g) w w') (ht : IntRow w' tv' t') (ho : ∀ g, tv'.ownBlock = some g → s.tv.ownBlock = some g ∨ w.heap.size ≤ g) : RRC (w'.setCell ⟨p, 3, none⟩ tv') N0 p mb room zv zs (s.setT tv' t') := by
  have hp : ¬ s.tv.ownBlock = some p := fun e => (h.tp p e).1 rfl
  have hm : ¬ s.tv.ownBlock = some mb := fun e => (h.tp mb e).2 rfl
  have s2 : Sav (fun g => g = p) w' (w'.setCell ⟨p, 3, none⟩ tv') := .set p 3 _
  have hlt := h.lt
  have hmlt := h.map.lt
  have hlo : N0 ≤ p := h.flo p (.inl rfl)
  have hnew : ∀ g, tv'.ownBlock = some g → g ≠ p ∧ g ≠ mb := fun g hg => (ho g hg).elim (h.tp g) (fun e => ⟨by omega, by omega⟩)
  exact ⟨cell_so (k.cell h.c0 hp) (by simp), cell_so (k.cell h.c1 hp) (by simp), cell_so (k.cell h.c2 hp) (by simp), cell_ss (k.cell h.c3 hp), cell_so (k.cell h.c4 hp) (by simp), cell_so (k.cell h.c5 hp) (by simp), fun j => by simpa using k.frozen (p := ⟨p, j, none⟩) hlt (h.free j) hp,
    (h.row.sav k (fun g hg e => (h.ap g hg).2.2 e)).sav s2 (fun g hg e => (h.ap g hg).1 e), Row.sav ht s2 (fun g hg e => (hnew g hg).1 e), (h.zs.savR k (fun g hg e => by have h1 := h.zlo g hg; have h2 := h.flo g (.inr (.inr (.inr e))); omega)).savR s2 (fun g hg e => by have := h.zlo g hg; omega), (h.map.sav k hm).sav s2 h.mp,
    fun g hg => ⟨(h.ap g hg).1, (h.ap g hg).2.1, fun e => (ho g e).elim (h.ap g hg).2.2 (fun e2 => by have := h.row.lt hg; omega)⟩, hnew, h.mp, h.zlo, fun g hg => by
      rcases hg with e | e | e | e
      · exact h.flo g (.inl e)
      · exact h.flo g (.inr (.inl e))
      · exact h.flo g (.inr (.inr (.inl e)))
      · exact (ho g e).elim (fun e => h.flo g (.inr (.inr (.inr e)))) (fun e => by omega)⟩
theorem RRC.setL {lv' : Value} {l' : List Hel} (h : RRC w N0 p mb room zv zs s) (k : Sav (fun g => s.lv.ownBlock = some g) w w') (ht : RowH 108 w' lv' l') (ho : ∀ g, lv'.ownBlock = some g → s.lv.ownBlock = some g ∨ w.heap.size ≤ g) : RRC (w'.setCell ⟨p, 2, none⟩ lv') N0 p mb room zv zs (s.setL lv' l') := by
  have hp : ¬ s.lv.ownBlock = some p := fun e => (h.ap p e).1 rfl
  have hm : ¬ s.lv.ownBlock = some mb := fun e => (h.ap mb e).2.1 rfl
  have s2 : Sav (fun g => g = p) w' (w'.setCell ⟨p, 2, none⟩ lv') := .set p 2 _
  have hlt := h.lt
  have hmlt := h.map.lt
  have hlo : N0 ≤ p := h.flo p (.inl rfl)
  have hnew : ∀ g, lv'.ownBlock = some g → g ≠ p ∧ g ≠ mb ∧ s.tv.ownBlock ≠ some g := fun g hg => (ho g hg).elim (h.ap g) (fun e => ⟨by omega, by omega, fun e2 => by have := Row.lt h.turn e2; omega⟩)
  exact ⟨cell_so (k.cell h.c0 hp) (by simp), cell_so (k.cell h.c1 hp) (by simp), cell_ss (k.cell h.c2 hp), cell_so (k.cell h.c3 hp) (by simp), cell_so (k.cell h.c4 hp) (by simp), cell_so (k.cell h.c5 hp) (by simp), fun j => by simpa using k.frozen (p := ⟨p, j, none⟩) hlt (h.free j) hp,
    ht.sav s2 (fun g hg e => (hnew g hg).1 e), Row.sav (Row.sav h.turn k (fun g hg e => (h.ap g e).2.2 hg)) s2 (fun g hg e => (h.tp g hg).1 e), (h.zs.savR k (fun g hg e => by have h1 := h.zlo g hg; have h2 := h.flo g (.inr (.inr (.inl e))); omega)).savR s2 (fun g hg e => by have := h.zlo g hg; omega), (h.map.sav k hm).sav s2 h.mp,
    hnew, h.tp, h.mp, h.zlo, fun g hg => by
      rcases hg with e | e | e | e
      · exact h.flo g (.inl e)
      · exact h.flo g (.inr (.inl e))
      · exact (ho g e).elim (fun e => h.flo g (.inr (.inr (.inl e)))) (fun e => by omega)
      · exact h.flo g (.inr (.inr (.inr e)))⟩
end
structure RRM (w wr : World) (N0 p mb : Nat) (room : Int) (zv : Value) (zs : List Int) (s0 : RRV) (R : List Nat) (s : RRV) : Prop where
  at_ : RRC wr N0 p mb room zv zs s
  sav : Sav (RRFoot p mb s0) w wr
  own : ∀ g, RRFoot p mb s g → (RRFoot p mb s0 g ∨ w.heap.size ≤ g) ∧ g ∉ R
  res : ∀ g, g ∈ R → w.heap.size ≤ g ∧ g < wr.heap.size
  base : N0 ≤ w.heap.size
section
variable {w wr w' : World} {N0 p mb n : Nat} {room : Int} {zv : Value} {zs : List Int} {s0 s s2 : RRV} {R : List Nat} {v' tv' : Value} {t' : List Int} {l' : List Hel}
theorem RRM.first (h : RRC w N0 p mb room zv zs s) : RRM w w N0 p mb room zv zs s [] s := ⟨h, .refl _ _, fun _ e => ⟨.inl e, by simp⟩, fun g e => (by cases e), Nat.le_trans (h.flo p (.inl rfl)) (Nat.le_of_lt h.lt)⟩
theorem RRM.gr (h : RRM w wr N0 p mb room zv zs s0 R s) (g : Gr wr w') : RRM w w' N0 p mb room zv zs s0 R s :=
  ⟨h.at_.gr g, h.sav.then (.of_gr g), h.own, fun x e => ⟨(h.res x e).1, Nat.lt_of_lt_of_le (h.res x e).2 g.size⟩, h.base⟩
theorem RRM.res_add (h : RRM w wr N0 p mb room zv zs s0 R s) (g : Gr wr w') (hn : wr.heap.size ≤ n) (hl : n < w'.heap.size) : RRM w w' N0 p mb room zv zs s0 (n :: R) s := by
  have h1 := h.gr g
  refine ⟨h1.at_, h1.sav, fun x e => ⟨(h1.own x e).1, fun e2 => ?_⟩, fun x e => ?_, h.base⟩
  · rcases List.mem_cons.1 e2 with rfl | e3
    · have := h.at_.flt e; omega
    · exact (h1.own x e).2 e3
  · rcases List.mem_cons.1 e with rfl | e3
    · exact ⟨Nat.le_trans h.sav.size hn, hl⟩
    · exact h1.res x e3
theorem RRM.nin (h : RRM w wr N0 p mb room zv zs s0 R s) {r : Nat} (hr : r ∈ R) : ¬ RRFoot p mb s r := fun e => (h.own r e).2 hr
theorem RRM.less {R' : List Nat} (h : RRM w wr N0 p mb room zv zs s0 R s) (hR : ∀ g, g ∈ R' → g ∈ R) : RRM w wr N0 p mb room zv zs s0 R' s := ⟨h.at_, h.sav, fun g e => ⟨(h.own g e).1, fun e2 => (h.own g e).2 (hR g e2)⟩, fun g e => h.res g (hR g e), h.base⟩
theorem RRM.did (h : RRM w wr N0 p mb room zv zs s0 R s) : RRM w wr N0 p mb room zv zs s0 [] s := h.less (fun g e => by cases e)
theorem RRM.off {B : Nat → Prop} (h : RRM w wr N0 p mb room zv zs s0 R s) (c : Sav B wr w') (hB : ∀ g, B g → g ∈ R) : RRM w w' N0 p mb room zv zs s0 R s :=
  ⟨h.at_.sav c (fun g e => ⟨Nat.le_trans h.base (h.res g (hB g e)).1, h.nin (hB g e)⟩), h.sav.trans c (fun g e => .inr (h.res g (hB g e)).1), h.own, fun x e => ⟨(h.res x e).1, Nat.lt_of_lt_of_le (h.res x e).2 c.size⟩, h.base⟩
/-- A step that writes only what it may. -/
theorem RRM.step {B : Nat → Prop} (h : RRM w wr N0 p mb room zv zs s0 R s) (d : RRC w' N0 p mb room zv zs s2) (c : Sav B wr w') (hB : ∀ g, B g → RRFoot p mb s g) (ho : ∀ g, RRFoot p mb s2 g → RRFoot p mb s g ∨ wr.heap.size ≤ g) : RRM w w' N0 p mb room zv zs s0 R s2 :=
  ⟨d, h.sav.trans c (fun g e => (h.own g (hB g e)).1), fun g e => (ho g e).elim (h.own g) (fun e1 => ⟨.inr (Nat.le_trans h.sav.size e1), fun e2 => by have := (h.res g e2).2; omega⟩), fun x e => ⟨(h.res x e).1, Nat.lt_of_lt_of_le (h.res x e).2 c.size⟩, h.base⟩
theorem RRM.setB (h : RRM w wr N0 p mb room zv zs s0 R s) (x : Bool) : RRM w (wr.setCell ⟨p, 4, none⟩ (.bool x)) N0 p mb room zv zs s0 R (s.setB x) :=
  h.step (B := fun g => g = p) (h.at_.setB x) (.set p 4 _) (fun _ e => .inl e) (fun _ e => .inl e)
theorem RRM.setM (h : RRM w wr N0 p mb room zv zs s0 R s) (k : Sav (fun g => g = mb) wr w') (x y : Int) (n : Nat) (hm : MapI w' mb n (fI s.f x y) (fI s.g x true)) : RRM w w' N0 p mb room zv zs s0 R (s.setM x y n) :=
  h.step (h.at_.setM k x y n hm) k (fun _ e => .inr (.inl e)) (fun _ e => .inl e)
theorem RRM.setT (h : RRM w wr N0 p mb room zv zs s0 R s) (k : Sav (fun g => s.tv.ownBlock = some g) wr w') (ht : IntRow w' tv' t') (ho : ∀ g, tv'.ownBlock = some g → s.tv.ownBlock = some g ∨ wr.heap.size ≤ g) : RRM w (w'.setCell ⟨p, 3, none⟩ tv') N0 p mb room zv zs s0 R (s.setT tv' t') := by
  refine h.step (B := fun g => g = p ∨ s.tv.ownBlock = some g) (h.at_.setT k ht ho) ((k.mono (fun _ e => .inr e)).then ((Sav.set p 3 _).mono (fun _ e => .inl e))) (fun g e => e.elim .inl (fun e => .inr (.inr (.inr e)))) (fun g e => ?_)
  rcases e with e | e | e | e
  · exact .inl (.inl e)
  · exact .inl (.inr (.inl e))
  · exact .inl (.inr (.inr (.inl e)))
  · exact (ho g e).imp (fun e => .inr (.inr (.inr e))) id
theorem RRM.setL (h : RRM w wr N0 p mb room zv zs s0 R s) (k : Sav (fun g => s.lv.ownBlock = some g) wr w') (ht : RowH 108 w' v' l') (ho : ∀ g, v'.ownBlock = some g → s.lv.ownBlock = some g ∨ wr.heap.size ≤ g) : RRM w (w'.setCell ⟨p, 2, none⟩ v') N0 p mb room zv zs s0 R (s.setL v' l') := by
  refine h.step (B := fun g => g = p ∨ s.lv.ownBlock = some g) (h.at_.setL k ht ho) ((k.mono (fun _ e => .inr e)).then ((Sav.set p 2 _).mono (fun _ e => .inl e))) (fun g e => e.elim .inl (fun e => .inr (.inr (.inl e)))) (fun g e => ?_)
  rcases e with e | e | e | e
  · exact .inl (.inl e)
  · exact .inl (.inr (.inl e))
  · exact (ho g e).imp (fun e => .inr (.inr (.inl e))) id
  · exact .inl (.inr (.inr (.inr e)))
end
/-- What it holds is the plain one's. -/
structure RShows (s : RRV) (a : RndS) (n : Nat) : Prop where
  l : s.l = a.l
  turn : s.turn = intL a.turn
  begun : s.begun = a.begun
  cr : ∀ k : Nat, k < 16 → s.f (k : Int) = a.credit k
  has : ∀ k : Nat, k ∈ a.turn → s.g (k : Int) = true
  few : s.mn ≤ n
set_option maxRecDepth 100000 in
set_option maxHeartbeats 40000000 in
theorem rrof_any (lv : Value) (l : List Hel) (p : Nat) (hn : l.length ≤ 300) (k : Nat) (w : World) (c2 : w.cell? ⟨p, 2, none⟩ = some lv) (hrow : RowH 108 w lv l) :
    Calls Tryd.prog 115 #[.pointer (some ⟨p, 0, none⟩), .int .i64 (k : Int)] w fun e w' => ∃ r, e = .returned r ∧ RowH 108 w' r (ofF l k) ∧ Gr w w' ∧ ∀ g, r.ownBlock = some g → w.heap.size ≤ g := by
  obtain ⟨i0', hi0, hz0, hz1, hz2⟩ := info_parts packInfo
  have HN := Lib.hid hn
  obtain ⟨la, lc, rfl, _, _, hce⟩ := hrow.any
  have HCE := Lib.hid hce
  clear hrow hce hn
  go_enter Tryd.func115, Tryd.ntmps115
  go_wp2
  clear c2
  go_loopw [5, 13] (fun s5 s13 wr => ∃ (i : Nat), i ≤ l.length ∧ s13 = .int .i64 (i : Int) ∧ Hid (Gr w wr ∧ RowH 108 wr s5 (ofF (l.take i) k) ∧ ∀ g, s5.ownBlock = some g → w.heap.size ≤ g)) (fun _ s _ => l.length - (intOf s).toNat)
  case atStart => exact ⟨0, Nat.zero_le _, rfl, Lib.hid ⟨Gr.refl _, RowH.nil _ _, fun g hg => by cases hg⟩⟩
  case round =>
    obtain ⟨i, hi, rfl, HK⟩ := hrel
    by_cases hlt : i < l.length
    · have i0 : (0 : Int) ≤ (i : Int) := by omega
      have i1 : (i : Int) < (l.length : Int) := by omega
      obtain ⟨lb, lo, rfl, hcell⟩ := HCE.out (by omega)
      obtain ⟨x, hx⟩ : ∃ x, x = l.getD i .zero := ⟨_, rfl⟩
      have HTK := Lib.hid (show ofF (l.take (i + 1)) k = ofF (l.take i) k ++ (if x.flow = (k : Int) then [x] else []) from by
        rw [← ofF_one, ← ofF_app, hx, List.getD_eq_getElem?_getD, List.getElem?_eq_getElem hlt]
        rw [List.take_add_one, List.getElem?_eq_getElem hlt]
        rfl)
      have HLE := Lib.hid (show (ofF (l.take i) k).length ≤ 300 from by have h1 := ofF_len (l.take i) k; have h2 := HN.out; rw [List.length_take] at h1; omega)
      have HWI := Lib.hid (show wrap64 ((i : Int) + 1) = (i : Int) + 1 from by have := HN.out; unfold wrap64; omega)
      have hel := (hcell i hlt).gr HK.out.1
      rw [← hx] at hel
      clear hcell hx
      obtain ⟨c0, c1, c2, c3, c4, c5⟩ := hel
      go_upto_region 5 with fail
      clear c0 c1 c2 c3 c4 c5
      obtain ⟨w1, hw1⟩ : ∃ u, u = wr.alloc (.cells #[.int .i64 x.t, .int .i64 x.len, .int .i64 x.flow, .int .i64 x.band, .int .i64 x.mark, .int .i64 x.n] 108) := ⟨_, rfl⟩
      obtain ⟨xb, hxb⟩ : ∃ u, u = wr.heap.size := ⟨_, rfl⟩
      have HX1 : Hid (HelAt w1 xb 0 x) := Lib.hid (by rw [hw1]; exact held_new wr x hxb)
      have HK1 : Hid (Gr w w1 ∧ RowH 108 w1 u5 (ofF (l.take i) k)) := Lib.hid (by rw [hw1]; exact ⟨HK.out.1.trans ((Gr.refl _).alloc _), HK.out.2.1.gr ((Gr.refl _).alloc _)⟩)
      rw [← hw1, ← hxb]
      clear hw1 hxb
      obtain ⟨x0, x1, x2, x3, x4, x5⟩ := HX1.out
      simp only [Nat.zero_add] at x1 x2 x3 x4 x5
      obtain ⟨oa, oc, rfl⟩ := HK1.out.2.shape
      have HOW := Lib.hid HK.out.2.2
      by_cases hk : x.flow = (k : Int)
      · rw [if_pos hk] at HTK
        go_upto_region 6 with fail
        clear hk
        go_wp2_with (at_builtin; refine wpList_append_rowH rfl _ _ _ (by rfl) i0' Hel.zero.val Tryd.underlying38 hi0 hz0 hz1 hz2 rfl ?c1 (by rfl) (HK1.out.2.gr ((Gr.refl _).alloc _)) ⟨w1.heap.size, 0, none⟩ 1 [x] (by rfl) (by simp) ?c3 ?c2 ?_; (case c1 => (intro u hu; exact (cells_int Hel.zero u (by simpa [Hel.val, Value.cells, Hel.cells] using hu)).2)); (case c3 => (rw [flat_one]; exact (held_new w1 x rfl).news)); (case c2 => (have h1 := HLE.out; simp; omega)); intro v4 w4 hrow hgr hown hold; have HG4 := Lib.hid (show Gr w w4 from (HK1.out.1.trans ((Gr.refl w1).alloc (.cells #[.int .i64 x.t, .int .i64 x.len, .int .i64 x.flow, .int .i64 x.band, .int .i64 x.mark, .int .i64 x.n] 108))).grown hgr (fun g hg => HOW.out g hg)); have HR4 := Lib.hid hrow; have HO4 := Lib.hid (show ∀ g, v4.ownBlock = some g → w.heap.size ≤ g from fun g hg => (hown g hg).elim (HOW.out g) (fun e => Nat.le_trans (HK1.out.1.trans ((Gr.refl w1).alloc (.cells #[.int .i64 x.t, .int .i64 x.len, .int .i64 x.flow, .int .i64 x.band, .int .i64 x.mark, .int .i64 x.n] 108))).size e)); clear hrow hgr hown hold)
        rw [HWI.out]
        go_roundw
        case measure => simp [intOf]; omega
        case rel => exact ⟨i + 1, by omega, by go_num, Lib.hid ⟨HG4.out, by rw [HTK.out]; exact HR4.out, HO4.out⟩⟩
      · rw [if_neg hk, List.append_nil] at HTK
        go_wp2
        rw [HWI.out]
        go_roundw
        case measure => simp [intOf]; omega
        case rel => exact ⟨i + 1, by omega, by go_num, Lib.hid ⟨HK1.out.1, by rw [HTK.out]; exact HK1.out.2, HOW.out⟩⟩
    · obtain rfl : i = l.length := by omega
      have i1 : ¬ (l.length : Int) < (l.length : Int) := by omega
      go_wp2
      go_ret
      have h1 := HK.out
      rw [List.take_length] at h1
      exact ⟨_, rfl, h1.2.1, h1.1, h1.2.2⟩
theorem RRC.of_any {w : World} {N0 p mb : Nat} {room : Int} {zv : Value} {zs : List Int} {s : RRV} (h : RRC w N0 p mb room zv zs s) (hn : s.l.length ≤ 300) (k : Nat) :
    Calls Tryd.prog 115 #[.pointer (some ⟨p, 0, none⟩), .int .i64 (k : Int)] w fun e w' => ∃ r, e = .returned r ∧ RowH 108 w' r (ofF s.l k) ∧ Gr w w' ∧ ∀ g, r.ownBlock = some g → w.heap.size ≤ g := rrof_any s.lv s.l p hn k w h.c2 h.row
set_option maxRecDepth 100000 in
theorem rrwhen_any (p : Nat) (lv : Value) (l : List Hel) (now : Int) (w : World) (c2 : w.cell? ⟨p, 2, none⟩ = some lv) (hrow : RowH 108 w lv l) :
    Calls Tryd.prog 114 #[.pointer (some ⟨p, 0, none⟩), .int .i64 now] w fun e w' => e = .returned (.tuple #[.int .i64 now, .bool (decide (0 < l.length))]) ∧ Gr w w' := by
  obtain ⟨a, c, rfl⟩ := hrow.shape
  have hd : decide ((0 : Int) < (l.length : Int)) = decide (0 < l.length) := by
    by_cases h0 : 0 < l.length
    · rw [decide_eq_true h0, decide_eq_true (by omega)]
    · rw [decide_eq_false h0, decide_eq_false (by omega)]
  rw [← hd]
  clear hrow hd
  go_enter Tryd.func114, Tryd.ntmps114
  go_upto_region 1 with fail
  go_quiet (fail)
  go_wp2
  all_goals
    exact bodyPost_ret (v := .tuple #[.int .i64 now, .bool (decide ((0 : Int) < (l.length : Int)))]) (by simp [results, Tryd.results114, go_sem]) rfl ⟨rfl, (Gr.refl _).drewN _⟩
set_option maxRecDepth 100000 in
theorem rrall_any (p : Nat) (lv : Value) (l : List Hel) (w : World) (c2 : w.cell? ⟨p, 2, none⟩ = some lv) (hrow : RowH 108 w lv l) :
    Calls Tryd.prog 111 #[.pointer (some ⟨p, 0, none⟩)] w fun e w' => e = .returned lv ∧ w = w' := by
  obtain ⟨a, c, rfl⟩ := hrow.shape
  clear hrow
  go_enter Tryd.func111, Tryd.ntmps111
  go_wp2
  go_ret
  exact ⟨rfl, rfl⟩
end Go.Proofs.YtbpofdfehcbppaaDoor

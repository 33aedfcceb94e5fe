/-
  The first of several filters: plain words, ground, and filter.First walked.
-/
import Derived.Test.YthkccohigoejgaaDoorFltW
namespace Go.Proofs.YthkccohigoejgaaDoor
open Go Go.RowKit

def okP (x : Itm) (t : ByteArray) : Bool := match pAll t with
  | .ok f _ => meantF x 20 f
  | .err _ _ => false
/-- The first i below n of which p holds (-1: none). -/
def firstTo (p : Nat → Bool) : Nat → Int
  | 0 => -1
  | n + 1 => if 0 ≤ firstTo p n then firstTo p n else if p n = true then (n : Int) else -1
theorem firstTo_succ (p : Nat → Bool) (n : Nat) : firstTo p (n + 1) = if 0 ≤ firstTo p n then firstTo p n else if p n = true then (n : Int) else -1 := rfl
theorem firstTo_or (p : Nat → Bool) : ∀ n, firstTo p n = -1 ∨ (0 ≤ firstTo p n ∧ firstTo p n < n)
  | 0 => .inl rfl
  | n + 1 => by
    unfold firstTo
    rcases firstTo_or p n with h | h
    · rw [if_neg (by omega)]
      by_cases hp : p n = true
      · rw [if_pos hp]; exact .inr (by omega)
      · rw [if_neg hp]; exact .inl rfl
    · rw [if_pos h.1]; exact .inr (by omega)
theorem firstTo_none {p : Nat → Bool} : ∀ {n : Nat}, (∀ j, j < n → p j = false) → firstTo p n = -1
  | 0, _ => rfl
  | n + 1, h => by
    unfold firstTo
    rw [firstTo_none (fun j hj => h j (by omega)), if_neg (by decide), if_neg (by rw [h n (by omega)]; decide)]
theorem firstTo_hit {p : Nat → Bool} {i : Nat} (hn : ∀ j, j < i → p j = false) (hp : p i = true) : ∀ {n : Nat}, i < n → firstTo p n = i
  | 0, h => by omega
  | n + 1, h => by
    unfold firstTo
    rcases Nat.lt_or_ge i n with h1 | h1
    · rw [firstTo_hit hn hp h1, if_pos (by omega)]
    · obtain rfl : n = i := by omega
      rw [firstTo_none hn, if_neg (by decide), if_pos hp]
/-- v is what is read of a text. -/
def KidP (S : Nat → Prop) (w : World) (v : Value) : PR → Prop
  | .ok f _ => FltV S 20 w v f
  | .err _ _ => v = .nilIface
section
variable {S S' : Nat → Prop} {w w' : World} {v u : Value} {pr : PR}
theorem KidP.same (h : KidP S w v pr) (hk : ∀ g, S g → w'.heap[g]? = w.heap[g]?) : KidP S w' v pr := by
  cases pr with
  | ok f R => exact FltV.same h hk
  | err c R => exact h
theorem KidP.mono (h : KidP S w v pr) (hS : ∀ g, S g → S' g) : KidP S' w v pr := by
  cases pr with
  | ok f R => exact FltV.mono hS h
  | err c R => exact h
theorem KidP.bound (h : KidP S w v pr) : KidP (fun g => S g ∧ g < w.heap.size) w v pr := by
  cases pr with
  | ok f R => exact FltV.bound h
  | err c R => exact h
theorem KidP.if_ (h : KidP S w v pr) : isIf v := by
  cases pr with
  | ok f R => exact .inr (FltV.iface h)
  | err c R => exact .inl h
theorem KidP.one (h : KidP S w v pr) (hu : u ∈ [v]) : u.oneCell' = true := by
  simp at hu; subst hu
  rcases h.if_ with rfl | ⟨t, x, rfl⟩ <;> rfl
theorem KidP.one2 (h : KidP S w v pr) (hu : u ∈ [v]) : isIf u := by
  simp at hu; subst hu
  exact h.if_
end
/-- The list so far. -/
structure FLs (w0 w : World) (T : Nat → ByteArray) (n : Nat) (s : Value) (vs : List Value) (S : Nat → Prop) : Prop where
  row : IfRow w s vs
  len : vs.length = n
  kids : ∀ j, j < n → KidP S w (vs.getD j .nilIface) (pAll (T j))
  sin : ∀ g, S g → w0.heap.size ≤ g ∧ g < w.heap.size
  own : ∀ g, s.ownBlock = some g → w0.heap.size ≤ g ∧ ¬ S g
  gr : Gr w0 w
section
variable {w0 w w' w1 w2 : World} {T : Nat → ByteArray} {n : Nat} {s v v' : Value} {vs : List Value} {S : Nat → Prop}
theorem FLs.grow (h : FLs w0 w T n s vs S) (g : Gr w w') : FLs w0 w' T n s vs S :=
  ⟨Row.gr h.row g, h.len, fun j hj => (h.kids j hj).same fun q hq => g.block (h.sin q hq).2, fun q hq => ⟨(h.sin q hq).1, Nat.lt_of_lt_of_le (h.sin q hq).2 g.size⟩, h.own, h.gr.trans g⟩
theorem FLs.nil (w0 : World) (T : Nat → ByteArray) (g : Gr w0 w) : FLs w0 w T 0 (.slice none 0 0) [] (fun _ => False) :=
  ⟨Row.nil _ _ _ _, rfl, fun j hj => by omega, fun q hq => hq.elim, fun q hq => by simp [Value.ownBlock] at hq, g⟩
theorem FLs.more (h : FLs w0 w T n s vs S) (k : Gr w w1) (hv : KidP (fun g => w.heap.size ≤ g) w1 v (pAll (T n))) {o : Obj} (row : IfRow w2 v' (vs ++ [v])) (g : (w1.alloc o).grownBy w2 s.ownBlock) (hown : ∀ g, v'.ownBlock = some g → s.ownBlock = some g ∨ (w1.alloc o).heap.size ≤ g) :
    FLs w0 w2 T (n + 1) v' (vs ++ [v]) (fun g => S g ∨ (w.heap.size ≤ g ∧ g < w1.heap.size)) := by
  have hsz : (w1.alloc o).heap.size = w1.heap.size + 1 := by simp
  have hw1 : w.heap.size ≤ w1.heap.size := k.size
  have hw0 : w0.heap.size ≤ w.heap.size := h.gr.size
  have hol : ∀ g, s.ownBlock = some g → g < w.heap.size := fun g hg => Row.lt h.row hg
  have hb : ∀ q, q < w1.heap.size → s.ownBlock ≠ some q → w2.heap[q]? = w1.heap[q]? := fun q hq h1 => by
    rw [g.block q (by omega) (fun e => h1 e.symm)]
    exact ((Gr.refl w1).alloc o).block hq
  have hs2 : (w1.alloc o).heap.size ≤ w2.heap.size := (Sav.of_grown (B := fun q => s.ownBlock = some q) g fun q e => e).size
  refine ⟨row, by simp [h.len], fun j hj => ?_, fun q hq => ?_, fun q hq => ?_, ?_⟩
  · by_cases hj2 : j < n
    · have e1 : (vs ++ [v]).getD j .nilIface = vs.getD j .nilIface := by simp [List.getD_eq_getElem?_getD, List.getElem?_append_left (by rw [h.len]; exact hj2)]
      rw [e1]
      refine ((h.kids j hj2).same (fun q hq => ?_)).mono fun q hq => .inl hq
      have h1 := h.sin q hq
      rw [hb q (by omega) (fun e => (h.own q e).2 hq)]
      exact k.block h1.2
    · obtain rfl : j = n := by omega
      have e1 : (vs ++ [v]).getD j .nilIface = v := by rw [← h.len]; simp [List.getD_eq_getElem?_getD]
      rw [e1]
      refine (hv.bound.same (fun q hq => ?_)).mono fun q hq => .inr hq
      exact hb q hq.2 (fun e => by have := hol q e; have := hq.1; omega)
  · rcases hq with hq | hq
    · have := h.sin q hq; omega
    · omega
  · rcases hown q hq with e1 | e1
    · refine ⟨(h.own q e1).1, ?_⟩
      rintro (h1 | h1)
      · exact (h.own q e1).2 h1
      · have := hol q e1; omega
    · refine ⟨by omega, ?_⟩
      rintro (h1 | h1)
      · have := h.sin q h1; omega
      · omega
  · exact ((h.gr.trans k).alloc o).grown g fun q e => (h.own q e).1
end
/-- A call through an interface value, as a guarded walk meets it. -/
theorem meth_run1 {ti : TypeId} {yi r u : Value} {name : String} {f : FuncId} (hm : Meth (.iface ti yi) name f r) (w : World) : ((Sem.run Tryd.prog (method 260 ti yi name) w).andThen fun a w' => Sem.run Tryd.prog (callFunc a.fst #[a.snd, u]) w') = .ok (.enter f #[r, u]) w := by
  have h := hm #[u] w
  simpa [callMethod, go_sem] using h
theorem KidP.mean {x : Itm} {S : Nat → Prop} {w : World} {v : Value} {t : ByteArray} (h : KidP S w v (pAll t)) : (v = .nilIface ∧ okP x t = false) ∨ ((∃ ti yi, v = .iface ti yi) ∧ MeanF x v (okP x t) w) := by
  unfold okP
  cases e : pAll t with
  | ok f R =>
    rw [e] at h
    exact .inr ⟨FltV.iface h, mean_any x h⟩
  | err c R =>
    rw [e] at h
    exact .inl ⟨h, rfl⟩
set_option maxRecDepth 100000 in
set_option maxHeartbeats 8000000 in
theorem first_any (x : Itm) (T : Nat → ByteArray) (n : Nat) (s : Value) (vs : List Value) (S : Nat → Prop) (w : World) (row : IfRow w s vs) (hl : vs.length = n) (hn : n ≤ 10) (hk : ∀ j, j < n → KidP S w (vs.getD j .nilIface) (pAll (T j))) :
    Calls Tryd.prog 9 #[s, x.val] w fun E w' => E = .returned (.int .i64 (firstTo (fun j => okP x (T j)) n)) ∧ Gr w w' := by
  obtain ⟨sa, sc, rfl⟩ := Row.shape row
  rw [hl]
  have HROW := Lib.hid row
  have HL := Lib.hid hl
  have HKM : Hid (∀ i, i < n → ∃ g off, sa = some ⟨g, off, none⟩ ∧ w.cell? ⟨g, off + i, none⟩ = some (vs.getD i .nilIface) ∧ ((vs.getD i .nilIface = .nilIface ∧ okP x (T i) = false) ∨ ((∃ ti yi, vs.getD i .nilIface = .iface ti yi) ∧ MeanF x (vs.getD i .nilIface) (okP x (T i)) w))) := Lib.hid (fun i hi => by
    obtain ⟨g, off, cap, e, _, _, hcell⟩ := Row.cells row (by omega)
    injection e with e1 e2 e3
    exact ⟨g, off, e1, hcell i _ (by rw [List.getD_eq_getElem?_getD, List.getElem?_eq_getElem (by rw [hl]; exact hi)]; rfl), (hk i hi).mean⟩)
  obtain ⟨pp, hpp⟩ : ∃ pp : Nat → Bool, pp = fun j => okP x (T j) := ⟨_, rfl⟩
  have HKM2 : Hid (∀ i, i < n → ∃ g off, sa = some ⟨g, off, none⟩ ∧ w.cell? ⟨g, off + i, none⟩ = some (vs.getD i .nilIface) ∧ ((vs.getD i .nilIface = .nilIface ∧ pp i = false) ∨ ((∃ ti yi, vs.getD i .nilIface = .iface ti yi) ∧ MeanF x (vs.getD i .nilIface) (pp i) w))) := Lib.hid (by rw [hpp]; exact HKM.out)
  rw [← hpp]
  clear row hl hk HKM hpp HROW
  have n1 : (n : Int) ≤ 10 := by omega
  unfold Itm.val
  go_enter Tryd.func9, Tryd.ntmps9
  go_upto_region 1 with fail
  obtain ⟨q, hq⟩ : ∃ q, q = w.heap.size := ⟨_, rfl⟩
  obtain ⟨w1, hw1⟩ : ∃ w1, w1 = w.alloc (.cells #[.int .i64 x.t, .int .i64 x.len, .int .i64 x.flow, .int .i64 x.band, .int .i64 x.mark] 23) := ⟨_, rfl⟩
  have HW1 : Hid (HB w1 q #[.int .i64 x.t, .int .i64 x.len, .int .i64 x.flow, .int .i64 x.band, .int .i64 x.mark] 23 ∧ Gr w w1) := Lib.hid (by
    rw [hw1, hq]
    exact ⟨HB.new _ _ _, (Gr.refl w).alloc _⟩)
  rw [← hw1, ← hq]
  clear hw1 hq
  go_wp2
  go_loopw [9] (fun s9 wr => ∃ i : Nat, i ≤ n ∧ s9 = .int .i64 (i : Int) ∧ Hid (∀ j, j < i → pp j = false) ∧ Hid (Gr w1 wr)) (fun s _ => n - (intOf s).toNat)
  case atStart => exact ⟨0, Nat.zero_le _, rfl, Lib.hid (fun j hj => by omega), Lib.hid (Gr.refl _)⟩
  case round =>
    obtain ⟨i, hi, rfl, HNO, HG⟩ := hrel
    have i0 : (0 : Int) ≤ (i : Int) := by omega
    by_cases hlt : i < n
    · have i1 : (i : Int) < (n : Int) := by omega
      obtain ⟨g, off, rfl, hce, hcase⟩ := HKM2.out i hlt
      have HLT := Lib.hid hlt
      rcases hcase with ⟨hv, hp⟩ | ⟨⟨ti, yi, hv⟩, hm⟩
      · have hce' : wr.cell? ⟨g, off + i, none⟩ = some .nilIface := by rw [← hv]; exact (HW1.out.2.trans HG.out).cell hce
        have HNX : Hid (∀ j, j < i + 1 → pp j = false) := Lib.hid (fun j hj => by
          rcases Nat.lt_or_ge j i with h1 | h1
          · exact HNO.out j h1
          · obtain rfl : j = i := by omega
            exact hp)
        clear hv hp hce hlt
        go_wp2
        go_roundw
        case rel => exact ⟨i + 1, by omega, by go_num, HNX, HG⟩
        case measure => simp [intOf]; omega
      · have hce' : wr.cell? ⟨g, off + i, none⟩ = some (.iface ti yi) := by rw [← hv]; exact (HW1.out.2.trans HG.out).cell hce
        rw [hv] at hm
        obtain ⟨b, hb⟩ : ∃ b, b = pp i := ⟨_, rfl⟩
        rw [← hb] at hm
        have HBV := Lib.hid hb.symm
        obtain ⟨f, r, hm1, hm2⟩ := hm
        have HM := Lib.hid hm1
        have HC := Lib.hid hm2
        have d0 : wr.cell? ⟨q, 0, none⟩ = some (.int .i64 x.t) := (HW1.out.1.gr HG.out).c 0 rfl
        have d1 : wr.cell? ⟨q, 1, none⟩ = some (.int .i64 x.len) := (HW1.out.1.gr HG.out).c 1 rfl
        have d2 : wr.cell? ⟨q, 2, none⟩ = some (.int .i64 x.flow) := (HW1.out.1.gr HG.out).c 2 rfl
        have d3 : wr.cell? ⟨q, 3, none⟩ = some (.int .i64 x.band) := (HW1.out.1.gr HG.out).c 3 rfl
        have d4 : wr.cell? ⟨q, 4, none⟩ = some (.int .i64 x.mark) := (HW1.out.1.gr HG.out).c 4 rfl
        clear hv hce hlt hm1 hm2 hb
        have HLN : Hid (∀ w5, Gr wr w5 → Gr w w5) := Lib.hid (fun w5 g => (HW1.out.2.trans HG.out).trans g)
        cases b with
        | true =>
          go_wp2_with (rw [meth_run1 HM.out]; change Calls Tryd.prog f #[r, _] wr _; refine (HC.out wr (HLN.out wr (Gr.refl _))).mono ?_; rintro E w5 ⟨rfl, hg5⟩; have HG5 := Lib.hid hg5; clear hg5)
          go_ret
          exact ⟨by rw [firstTo_hit HNO.out HBV.out HLT.out]; rfl, HLN.out _ HG5.out⟩
        | false =>
          have HNX : Hid (∀ j, j < i + 1 → pp j = false) := Lib.hid (fun j hj => by
            rcases Nat.lt_or_ge j i with h1 | h1
            · exact HNO.out j h1
            · obtain rfl : j = i := by omega
              exact HBV.out)
          go_wp2_with (rw [meth_run1 HM.out]; change Calls Tryd.prog f #[r, _] wr _; refine (HC.out wr (HLN.out wr (Gr.refl _))).mono ?_; rintro E w5 ⟨rfl, hg5⟩; have HG5 := Lib.hid hg5; clear hg5)
          go_roundw
          case rel => exact ⟨i + 1, by have := HLT.out; omega, by go_num, HNX, Lib.hid (HG.out.trans HG5.out)⟩
          case measure => have := HLT.out; simp [intOf]; omega
    · obtain rfl : i = n := by omega
      go_wp2
      go_ret
      exact ⟨by rw [firstTo_none HNO.out]; rfl, HW1.out.2.trans HG.out⟩
end Go.Proofs.YthkccohigoejgaaDoor

/-
  The program's Hashed as a side. (Printed by genhas.py.)
-/
import Derived.Test.YtbpofdfehcbppaaDoorHasF
import Derived.Test.YtbpofdfehcbppaaDoorRedG
namespace Go.Proofs.YtbpofdfehcbppaaDoor
open Go.RowKit Go.Extern.Stop Go.Stop Go.Extern

theorem lens_sum {xs : List Hel} (h : Lens xs) : 0 ≤ sumLen xs ∧ sumLen xs ≤ 10000 * (xs.length : Int) := by
  induction xs with
  | nil => exact ⟨Int.le_refl _, by simp [sumLen]⟩
  | cons x r ih =>
    have h1 := ih (fun y hy => h y (List.mem_cons_of_mem _ hy))
    have h2 := h x (List.mem_cons_self ..)
    rw [sumLen_cons, List.length_cons]
    omega
theorem ofK_lens {q : HasP} {l : List Hel} (h : Lens l) (k : Nat) : Lens (ofK q l k) := fun x hx => h x (ofK_mem.1 hx).1
theorem ofK_len (q : HasP) (l : List Hel) (k : Nat) : (ofK q l k).length ≤ l.length := List.length_filter_le _ _
def castL (t : List Nat) : List Int := t.map (fun (k : Nat) => (k : Int))
theorem castL_erase : ∀ (t : List Nat) (i : Nat), (castL t).eraseIdx i = castL (t.eraseIdx i)
  | [], _ => rfl
  | _ :: _, 0 => rfl
  | y :: r, i + 1 => by
    show (y : Int) :: (castL r).eraseIdx i = (y : Int) :: castL (r.eraseIdx i)
    rw [castL_erase r i]
theorem castL_get (t : List Nat) (j : Nat) : (castL t)[j]? = (t[j]?).map (fun (k : Nat) => (k : Int)) := by unfold castL; rw [List.getElem?_map]
theorem longest_longL (q : HasP) (l : List Hel) : ∀ n, longest q l n = longL (fun k => ofK q l k) n := by
  intro n
  induction n with
  | zero => rfl
  | succ n ih => rw [longest, longL, ih]
theorem putLs_ofK (q : HasP) (l : List Hel) (x : Hel) : putLs (fun k => ofK q l k) (hashOf q x.flow) x = fun k => ofK q (l ++ [x]) k := by
  funext k
  rw [ofK_app, ofK_one]
  unfold putLs fu
  by_cases h : k = hashOf q x.flow
  · subst h; simp
  · rw [if_neg h, if_neg (fun e => h e.symm), List.append_nil]
theorem putT_cast (q : HasP) (a : HasS) (x : Hel) : putT (fun k => ofK q a.l k) (castL a.turn) (hashOf q x.flow) = castL (hasTurn q a x) := by
  unfold putT hasTurn castL
  split <;> simp
/-- Where the only one of that value stands. -/
theorem one_at {t : List Nat} (h : t.Nodup) {m : Nat} (hm : m ∈ t) : ∃ i, t[i]? = some m ∧ (∀ j, j ≠ i → t[j]? ≠ some m) ∧ t.eraseIdx i = t.filter (fun k => decide (k ≠ m)) := by
  induction t with
  | nil => cases hm
  | cons y r ih =>
    rw [List.nodup_cons] at h
    by_cases e : y = m
    · subst e
      refine ⟨0, rfl, fun j hj => ?_, ?_⟩
      · cases j with
        | zero => exact absurd rfl hj
        | succ j =>
          rw [List.getElem?_cons_succ]
          exact fun e2 => h.1 (List.mem_of_getElem? e2)
      · have : r.filter (fun k => decide (k ≠ y)) = r := by
          rw [List.filter_eq_self]
          intro k hk
          exact decide_eq_true (fun e => h.1 (by rw [← e]; exact hk))
        rw [List.eraseIdx_cons_zero, List.filter_cons_of_neg (by simp), this]
    · obtain ⟨i, h1, h2, h3⟩ := ih h.2 ((List.mem_cons.1 hm).resolve_left (fun k => e k.symm))
      refine ⟨i + 1, by rw [List.getElem?_cons_succ]; exact h1, fun j hj => ?_, ?_⟩
      · cases j with
        | zero => simpa using e
        | succ j => rw [List.getElem?_cons_succ]; exact h2 j (by omega)
      · rw [List.eraseIdx_cons_succ, h3, List.filter_cons_of_pos (by simpa using e)]
structure HasI (N0 p ob : Nat) (q : HasP) (w : World) (b : Value × (Nat → Value)) (a : HasS) (n : Nat) : Prop where
  at_ : HasC w p ob q b.1 b.2 (fun k => ofK q a.l k) (castL a.turn) (a.l.length : Int)
  ok : HasOk q a n
  lo : ∀ g, HFoot p ob q b.1 b.2 g → N0 ≤ g
def hasSide (N0 p ob : Nat) (q : HasP) : Side (hashed q) N0 (Value × (Nat → Value)) where
  I := HasI N0 p ob q
  F b := HFoot p ob q b.1 b.2
  lo h hg := h.lo _ hg
  lt h hg := h.at_.flt hg
  sav h k hB := ⟨h.at_.sav k (fun g e => (hB g e).2), h.ok, h.lo⟩
section
variable {N0 p ob : Nat} {q : HasP} {w w' : World} {b : Value × (Nat → Value)} {a a' : HasS} {n n' : Nat}
theorem has_moved (h : HasI N0 p ob q w b a n) (d : HDid w w' p ob q b.1 b.2 (fun k => ofK q a'.l k) (castL a'.turn) (a'.l.length : Int)) (ok : HasOk q a' n') : ∃ b', (hasSide N0 p ob q).Moved w b w' b' a' n' := by
  obtain ⟨tv', vs', k⟩ := d
  refine ⟨(tv', vs'), ⟨k.at_, ok, fun g hg => (k.own g hg).1.elim (h.lo g) (fun e => Nat.le_trans (h.lo p (.inl rfl)) (Nat.le_trans (Nat.le_of_lt h.at_.lt.1) e))⟩, k.sav, fun g hg => (k.own g hg).1⟩
theorem HasI.putOk (hq : q.Ok) (h : HasI N0 p ob q w b a n) {t : Int} {x : Hel} (g : GoodPut t x n) : PutOk q (fun k => ofK q a.l k) (castL a.turn) (a.l.length : Int) x := by
  have h1 := h.ok.l.few
  have h2 := h.ok.l.n
  have h3 := h.ok.few
  refine ⟨hq, fun k _ => ?_, fun k _ => ?_, by unfold castL; rw [List.length_map]; omega, by have := g.len; omega, g.flow, by omega⟩
  · have h4 := lens_sum (ofK_lens (q := q) h.ok.l.lens k)
    have h5 := ofK_len q a.l k
    omega
  · have h5 := ofK_len q a.l k
    show (ofK q a.l k).length ≤ 900
    omega
theorem has_put (hq : q.Ok) (h : HasI N0 p ob q w b a n) {now : Int} {x : Hel} (g : GoodPut now x n) :
    Calls Tryd.prog 118 #[.pointer (some ⟨p, 0, none⟩), .int .i64 now, x.val] w fun e w' => ∃ v b', e = .returned v ∧ RowH 139 w' v ((hashed q).put a now x).2 ∧ (hasSide N0 p ob q).Moved w b w' b' ((hashed q).put a now x).1 (n + 1) := by
  have hok := (hashed_put_ok hq h.ok g).1
  have po := h.putOk hq g
  by_cases hf : ((a.l.length : Nat) : Int) + 1 ≤ q.room
  · rw [hashed_fits hf] at hok ⊢
    refine (hput_fits p ob q b.1 b.2 _ _ _ x po hf now w h.at_).mono ?_
    rintro e w' ⟨rfl, d⟩
    rw [putLs_ofK, putT_cast] at d
    obtain ⟨b', hb⟩ := has_moved (a' := ⟨a.l ++ [x], hasTurn q a x⟩) h (by simpa using d) hok
    exact ⟨_, b', rfl, RowH.nil _ _, hb⟩
  · have hin := hasOk_in h.ok g
    rw [hashed_full hf] at hok ⊢
    obtain ⟨f, hl⟩ := hasLast_is hq (l := a.l ++ [x]) (by simp)
    have hyl : hasLast q (a.l ++ [x]) ∈ a.l ++ [x] ∧ hashOf q (hasLast q (a.l ++ [x])).flow = longest q (a.l ++ [x]) q.lists := ofK_mem.1 (by rw [hl]; simp)
    have hlen := outN_len hyl.1 hin.nums
    generalize hy : hasLast q (a.l ++ [x]) = y at *
    generalize hm : longest q (a.l ++ [x]) q.lists = m at *
    have hnd := hin.nums
    simp only at hnd
    have hfs : Lens f := fun z hz => hin.l.lens z (ofK_mem.1 (by rw [hl]; exact List.mem_append_left _ hz)).1
    have hfl : f.length ≤ 300 := by
      have h1 := ofK_len q (a.l ++ [x]) m
      have h2 := hin.l.few
      have h3 := hin.l.n
      simp only at h2
      rw [hl] at h1
      simp at h1 h2
      omega
    have hmt : m ∈ hasTurn q a x := (hin.turn m).2 (by show ofK q (a.l ++ [x]) m ≠ []; rw [hl]; simp)
    obtain ⟨it, i1, i2, i3⟩ := one_at hin.nodup hmt
    have hpl := putLs_ofK q a.l x
    have hpt := putT_cast q a x
    refine (hput_full p ob q b.1 b.2 _ _ _ x po hf m (by rw [hpl, ← longest_longL]; exact hm) y f (by rw [hpl]; exact hl) (by have := lens_sum hfs; omega) it (fun _ => ?_) (by rw [hpt]; unfold castL; rw [List.length_map]; have h1 := hin.few; have h2 := hin.l.n; simp only at h1; omega) _ rfl now w h.at_).mono ?_
    · rw [hpt, castL_get, i1]
      refine ⟨rfl, fun j hj e => ?_⟩
      rw [castL_get] at e
      cases hj2 : (hasTurn q a x)[j]? with
      | none => rw [hj2] at e; cases e
      | some z =>
        rw [hj2] at e
        have e2 : (z : Int) = (m : Int) := Option.some.inj e
        exact i2 j hj (by rw [hj2]; congr 1; omega)
    · rintro e w' ⟨r, rfl, hr, d⟩
      rw [hpl, hpt] at d
      have hk : ∀ k, fu (fun k => ofK q (a.l ++ [x]) k) m f k = ofK q (outN (a.l ++ [x]) y.n) k := fun k => by
        by_cases e : k = m
        · subst e
          rw [fu_at, ofK_out, hl]
          exact (outN_last (by rw [← hl]; exact ofK_nodup hnd)).symm
        · rw [fu_ne _ _ e, ofK_other hyl.1 hnd (by rw [hyl.2]; exact fun e2 => e e2.symm)]
      have ht : (if f = [] then (castL (hasTurn q a x)).eraseIdx it else castL (hasTurn q a x)) = castL (if (ofK q (a.l ++ [x]) m).length = 1 then (hasTurn q a x).filter (fun i => decide (i ≠ m)) else hasTurn q a x) := by
        rw [hl]
        by_cases e : f = []
        · subst e
          rw [if_pos rfl, if_pos (show (([] : List Hel) ++ [y]).length = 1 from rfl), ← i3]
          exact castL_erase _ _
        · rw [if_neg e, if_neg (by simpa using e)]
      rw [ht, funext hk] at d
      obtain ⟨b', hb⟩ := has_moved (a' := ⟨outN (a.l ++ [x]) y.n, if (ofK q (a.l ++ [x]) m).length = 1 then (hasTurn q a x).filter (fun i => decide (i ≠ m)) else hasTurn q a x⟩) h (by
        rw [show ((outN (a.l ++ [x]) y.n).length : Int) = (a.l.length : Int) from by simp at hlen; omega]
        exact d) hok
      exact ⟨r, b', rfl, hr, hb⟩
theorem has_take (hq : q.Ok) (h : HasI N0 p ob q w b a n) (now : Int) :
    Calls Tryd.prog 119 #[.pointer (some ⟨p, 0, none⟩), .int .i64 now] w fun e w' => ∃ v b', e = .returned (.tuple #[((hashed q).take a now).2.1.val, v, .bool ((hashed q).take a now).2.2.2]) ∧ RowH 139 w' v ((hashed q).take a now).2.2.1 ∧ (hasSide N0 p ob q).Moved w b w' b' ((hashed q).take a now).1 n := by
  have hok := (hashed_take_ok (t := now) h.ok).1
  cases ht : a.turn with
  | nil =>
    rw [hashed_none ht] at hok ⊢
    have h1 := h.at_
    rw [show castL a.turn = [] from by rw [ht]; rfl] at h1
    refine (htake_nil p ob q b.1 b.2 _ _ now w h1).mono ?_
    rintro e w' ⟨rfl, d⟩
    obtain ⟨b', hb⟩ := has_moved (a' := a) h (by rw [show castL a.turn = [] from by rw [ht]; rfl]; exact d) hok
    exact ⟨_, b', rfl, RowH.nil _ _, hb⟩
  | cons k r =>
    obtain ⟨x, s, hs⟩ := List.exists_cons_of_ne_nil ((h.ok.turn k).1 (by rw [ht]; exact List.mem_cons_self ..))
    rw [hashed_some ht hs] at hok ⊢
    have hxl : x ∈ a.l ∧ hashOf q x.flow = k := ofK_mem.1 (by rw [hs]; exact List.mem_cons_self ..)
    have hlen := outN_len hxl.1 h.ok.nums
    have h1 := h.at_
    rw [show castL a.turn = (k : Int) :: castL r from by rw [ht]; rfl] at h1
    have hsl : Lens s := fun z hz => h.ok.l.lens z (ofK_mem.1 (by rw [hs]; exact List.mem_cons_of_mem _ hz)).1
    have hsn : s.length ≤ 300 := by
      have k1 := ofK_len q a.l k
      have k2 := h.ok.l.few
      have k3 := h.ok.l.n
      rw [hs] at k1
      simp at k1
      omega
    have hrn : (castL r).length ≤ 900 := by
      have k2 := h.ok.few
      have k3 := h.ok.l.n
      rw [ht] at k2
      unfold castL
      rw [List.length_map]
      simp at k2
      omega
    refine (htake_cons p ob q hq b.1 b.2 _ k (by rw [← hxl.2]; exact hashOf_lt hq _) (castL r) x s hs (by have := lens_sum hsl; omega) hrn _ (by have k2 := h.ok.l.few; have k3 := h.ok.l.n; omega) now w h1).mono ?_
    rintro e w' ⟨rfl, d⟩
    have hk : ∀ j, fu (fun j => ofK q a.l j) k s j = ofK q (outN a.l x.n) j := fun j => by
      by_cases e : j = k
      · subst e
        rw [fu_at, ofK_out, hs]
        exact (outN_head (by rw [← hs]; exact ofK_nodup h.ok.nums)).symm
      · rw [fu_ne _ _ e, ofK_other hxl.1 h.ok.nums (by rw [hxl.2]; exact fun e2 => e e2.symm)]
    have htt : (if s = [] then castL r else castL r ++ [(k : Int)]) = castL (if s = [] then r else r ++ [k]) := by
      unfold castL
      split <;> simp
    rw [htt, funext hk] at d
    obtain ⟨b', hb⟩ := has_moved (a' := ⟨outN a.l x.n, if s = [] then r else r ++ [k]⟩) h (by
      rw [show ((outN a.l x.n).length : Int) = (a.l.length : Int) - 1 from by omega]
      exact d) hok
    exact ⟨_, b', rfl, RowH.nil _ _, hb⟩
end
theorem has_pside {N0 p ob : Nat} {q : HasP} (hq : q.Ok) : PSide (hasSide N0 p ob q) (.iface 86 (.pointer (some ⟨p, 0, none⟩))) where
  put := ⟨_, _, (fun args w => by kernel_rfl : Meth _ "Put" 118 (.pointer (some ⟨p, 0, none⟩))), fun w b a n now x h g => has_put hq h g⟩
  take := ⟨_, _, (fun args w => by kernel_rfl : Meth _ "Take" 119 (.pointer (some ⟨p, 0, none⟩))), fun w b a n now h _ => has_take hq h now⟩
  when_ := ⟨_, _, (fun args w => by kernel_rfl : Meth _ "When" 120 (.pointer (some ⟨p, 0, none⟩))), fun w b a n now h _ => (hwhen_any p _ now w h.at_.c4).mono fun e w' ⟨h1, h2⟩ => ⟨b, by rw [h1]; simp [hashed], .of_gr _ h h2⟩⟩
  few {w b a n} h := ⟨(show a.l.length ≤ 1000 from by have := h.ok.l.few; have := h.ok.l.n; omega), h.ok.l.lens⟩
  fewPut h g := (hashed_put_ok hq h.ok g).2
  fewTake h _ := by rw [(hashed_take_ok h.ok).2]; exact Nat.zero_le _
  len := ⟨_, _, (fun args w => by kernel_rfl : Meth _ "Len" 117 (.pointer (some ⟨p, 0, none⟩))), fun w b a n h => hlen_any p _ w h.at_.c4⟩
  bytes := ⟨_, _, (fun args w => by kernel_rfl : Meth _ "Bytes" 116 (.pointer (some ⟨p, 0, none⟩))), fun w b a n h => by
    have h1 := hbytes_any p ob q hq b.1 b.2 _ _ _ w h.at_ (fun k _ => by have k1 := lens_sum (ofK_lens (q := q) h.ok.l.lens k); have k2 := ofK_len q a.l k; have k3 := h.ok.l.few; have k4 := h.ok.l.n; omega)
    rw [sumLen_parts hq] at h1
    exact h1⟩
end Go.Proofs.YtbpofdfehcbppaaDoor

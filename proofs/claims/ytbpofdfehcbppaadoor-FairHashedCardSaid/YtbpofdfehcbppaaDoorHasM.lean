/-
  The reference's Hashed as a side. fair.NewHashed, millraceref.HashedCheck. (Printed by genhas.py.)
-/
import Derived.Test.YtbpofdfehcbppaaDoorHasL
import Derived.Test.YtbpofdfehcbppaaDoorHasG
import Derived.Test.YtbpofdfehcbppaaDoorBlk
import Derived.Test.YtbpofdfehcbppaaDoorWithin
namespace Go.Proofs.YtbpofdfehcbppaaDoor
open Go.RowKit Go.Extern.Stop Go.Stop Go.Extern

structure RHasI (N0 p : Nat) (q : HasP) (w : World) (b : Value × Value) (a : HasS) (n : Nat) : Prop where
  at_ : RHasC w p q b.1 b.2 a.l (castL a.turn)
  ok : HasOk q a n
  lo : ∀ g, RHFoot p b.1 b.2 g → N0 ≤ g
def rhasSide (N0 p : Nat) (q : HasP) : Side (hashed q) N0 (Value × Value) where
  I := RHasI N0 p q
  F b := RHFoot p b.1 b.2
  lo h hg := h.lo _ hg
  lt h hg := h.at_.flt hg
  sav h k hB := ⟨h.at_.sav k (fun g e => (hB g e).2), h.ok, h.lo⟩
theorem castL_filter (t : List Nat) (m : Nat) : (castL t).filter (fun i => decide (i ≠ (m : Int))) = castL (t.filter (fun i => decide (i ≠ m))) := by
  unfold castL
  rw [List.filter_map]
  congr 1
  apply List.filter_congr
  intro x _
  simp [Function.comp]
  omega
section
variable {N0 p : Nat} {q : HasP} {w w' : World} {b : Value × Value} {a a' : HasS} {n n' : Nat}
theorem rhas_moved (h : RHasI N0 p q w b a n) (d : RHDid w w' p q b.1 b.2 a'.l (castL a'.turn)) (ok : HasOk q a' n') : ∃ b', (rhasSide N0 p q).Moved w b w' b' a' n' := by
  obtain ⟨lv', tv', k⟩ := d
  exact ⟨(lv', tv'), ⟨k.at_, ok, fun g hg => (k.own g hg).1.elim (h.lo g) (fun e => Nat.le_trans (h.lo p (.inl rfl)) (Nat.le_trans (Nat.le_of_lt h.at_.lt) e))⟩, k.sav, fun g hg => (k.own g hg).1⟩
theorem RHasI.putOk (hq : q.Ok) (h : RHasI N0 p q w b a n) {t : Int} {x : Hel} (g : GoodPut t x n) : RPutOk q a.l (castL a.turn) x := by
  have h1 := h.ok.l.few
  have h2 := h.ok.l.n
  have h3 := h.ok.few
  have h4 := g.few
  exact ⟨hq, by omega, h.ok.flow, by unfold castL; rw [List.length_map]; omega, g.flow⟩
theorem rhas_put (hq : q.Ok) (h : RHasI N0 p q w b a n) {now : Int} {x : Hel} (g : GoodPut now x n) :
    Calls Tryd.prog 125 #[.pointer (some ⟨p, 0, none⟩), .int .i64 now, x.val] w fun e w' => ∃ v b', e = .returned v ∧ RowH 108 w' v ((hashed q).put a now x).2 ∧ (rhasSide N0 p q).Moved w b w' b' ((hashed q).put a now x).1 (n + 1) := by
  have hok := (hashed_put_ok hq h.ok g).1
  have po := h.putOk hq g
  by_cases hf : ((a.l.length : Nat) : Int) + 1 ≤ q.room
  · rw [hashed_fits hf] at hok ⊢
    refine (rhput_fits p q b.1 b.2 _ _ x po hf now w h.at_).mono ?_
    rintro e w' ⟨rfl, d⟩
    rw [putT_cast] at d
    obtain ⟨b', hb⟩ := rhas_moved (a' := ⟨a.l ++ [x], hasTurn q a x⟩) h d hok
    exact ⟨_, b', rfl, RowH.nil _ _, hb⟩
  · have hin := hasOk_in h.ok g
    rw [hashed_full hf] at hok ⊢
    obtain ⟨f, hl⟩ := hasLast_is hq (l := a.l ++ [x]) (by simp)
    generalize hy : hasLast q (a.l ++ [x]) = y at *
    generalize hm : longest q (a.l ++ [x]) q.lists = m at *
    have hpt := putT_cast q a x
    refine (rhput_full p q b.1 b.2 _ _ x po hf m hm y f hl _ rfl (by rw [hpt]; unfold castL; rw [List.length_map]; have h1 := hin.few; have h2 := hin.l.n; simp only at h1; omega) now w h.at_).mono ?_
    rintro e w' ⟨r, rfl, hr, d⟩
    rw [hpt] at d
    have ht : (if f = [] then (castL (hasTurn q a x)).filter (fun i => decide (i ≠ (m : Int))) else castL (hasTurn q a x)) = castL (if (ofK q (a.l ++ [x]) m).length = 1 then (hasTurn q a x).filter (fun i => decide (i ≠ m)) else hasTurn q a x) := by
      rw [hl]
      by_cases e : f = []
      · subst e
        rw [if_pos rfl, if_pos (show (([] : List Hel) ++ [y]).length = 1 from rfl)]
        exact castL_filter _ _
      · rw [if_neg e, if_neg (by simpa using e)]
    rw [ht] at d
    obtain ⟨b', hb⟩ := rhas_moved (a' := ⟨outN (a.l ++ [x]) y.n, if (ofK q (a.l ++ [x]) m).length = 1 then (hasTurn q a x).filter (fun i => decide (i ≠ m)) else hasTurn q a x⟩) h d hok
    exact ⟨r, b', rfl, hr, hb⟩
theorem rhas_take (hq : q.Ok) (h : RHasI N0 p q w b a n) (now : Int) :
    Calls Tryd.prog 126 #[.pointer (some ⟨p, 0, none⟩), .int .i64 now] w fun e w' => ∃ v b', e = .returned (.tuple #[((hashed q).take a now).2.1.val, v, .bool ((hashed q).take a now).2.2.2]) ∧ RowH 108 w' v ((hashed q).take a now).2.2.1 ∧ (rhasSide N0 p q).Moved w b w' b' ((hashed q).take a now).1 n := by
  have hok := (hashed_take_ok (t := now) h.ok).1
  cases ht : a.turn with
  | nil =>
    rw [hashed_none ht] at hok ⊢
    have h1 := h.at_
    rw [show castL a.turn = [] from by rw [ht]; rfl] at h1
    refine (rhtake_nil p q b.1 b.2 _ now w h1).mono ?_
    rintro e w' ⟨rfl, d⟩
    obtain ⟨b', hb⟩ := rhas_moved (a' := a) h (by rw [show castL a.turn = [] from by rw [ht]; rfl]; exact d) hok
    exact ⟨_, b', rfl, RowH.nil _ _, hb⟩
  | cons k r =>
    obtain ⟨x, s, hs⟩ := List.exists_cons_of_ne_nil ((h.ok.turn k).1 (by rw [ht]; exact List.mem_cons_self ..))
    rw [hashed_some ht hs] at hok ⊢
    have h1 := h.at_
    rw [show castL a.turn = (k : Int) :: castL r from by rw [ht]; rfl] at h1
    have hfw := h.ok.l.few
    have hfn := h.ok.l.n
    have hrn : (castL r).length ≤ 300 := by
      have k2 := h.ok.few
      rw [ht] at k2
      unfold castL
      rw [List.length_map]
      simp at k2
      omega
    have hs2 : ofK q (outN a.l x.n) k = s := by
      rw [ofK_out, hs]
      exact outN_head (by rw [← hs]; exact ofK_nodup h.ok.nums)
    refine (rhtake_cons p q hq b.1 b.2 _ (by omega) h.ok.flow k (castL r) hrn x s hs hs2 now w h1).mono ?_
    rintro e w' ⟨rfl, d⟩
    have htt : (if s = [] then castL r else castL r ++ [(k : Int)]) = castL (if s = [] then r else r ++ [k]) := by
      unfold castL
      split <;> simp
    rw [htt] at d
    obtain ⟨b', hb⟩ := rhas_moved (a' := ⟨outN a.l x.n, if s = [] then r else r ++ [k]⟩) h d hok
    exact ⟨_, b', rfl, RowH.nil _ _, hb⟩
end
set_option maxRecDepth 100000 in
theorem rhwhen_any (p : Nat) (q : HasP) (lv tv : Value) (l : List Hel) (turn : List Int) (now : Int) (w : World) (h : RHasC w p q lv tv l turn) :
    Calls Tryd.prog 127 #[.pointer (some ⟨p, 0, none⟩), .int .i64 now] w fun e w' => e = .returned (.tuple #[.int .i64 now, .bool (decide (0 < l.length))]) ∧ Gr w w' := by
  obtain ⟨a, c, rfl⟩ := h.row.shape
  have c3 := h.c3
  have hd : decide ((0 : Int) < (l.length : Int)) = decide (0 < l.length) := by
    by_cases h0 : 0 < l.length
    · rw [decide_eq_true h0, decide_eq_true (by omega)]
    · rw [decide_eq_false h0, decide_eq_false (by omega)]
  rw [← hd]
  clear h hd
  go_enter Tryd.func127, Tryd.ntmps127
  go_upto_region 1 with fail
  go_quiet (fail)
  go_wp2
  all_goals
    exact bodyPost_ret (v := .tuple #[.int .i64 now, .bool (decide ((0 : Int) < (l.length : Int)))]) (by simp [results, Tryd.results127, go_sem]) rfl ⟨rfl, (Gr.refl _).drewN _⟩
theorem rhas_side {N0 p : Nat} {q : HasP} (hq : q.Ok) : RSide (rhasSide N0 p q) (.iface 89 (.pointer (some ⟨p, 0, none⟩))) where
  put := ⟨_, _, (fun args w => by kernel_rfl : Meth _ "Put" 125 (.pointer (some ⟨p, 0, none⟩))), fun w b a n now x h g => rhas_put hq h g⟩
  take := ⟨_, _, (fun args w => by kernel_rfl : Meth _ "Take" 126 (.pointer (some ⟨p, 0, none⟩))), fun w b a n now h _ => rhas_take hq h now⟩
  when_ := ⟨_, _, (fun args w => by kernel_rfl : Meth _ "When" 127 (.pointer (some ⟨p, 0, none⟩))), fun w b a n now h _ => (rhwhen_any p q b.1 b.2 _ _ now w h.at_).mono fun e w' ⟨h1, h2⟩ => ⟨b, h1, .of_gr _ h h2⟩⟩
  few {w b a n} h := ⟨(show a.l.length ≤ 1000 from by have := h.ok.l.few; have := h.ok.l.n; omega), h.ok.l.lens⟩
  fewPut h g := (hashed_put_ok hq h.ok g).2
  fewTake h _ := by rw [(hashed_take_ok h.ok).2]; exact Nat.zero_le _
  all := ⟨_, _, (fun args w => by kernel_rfl : Meth _ "All" 124 (.pointer (some ⟨p, 0, none⟩))), fun w b a n h => (rhall_any p q b.1 b.2 _ _ w h.at_).mono fun e w' ⟨h1, h2⟩ => ⟨b.1, h1, by rw [← h2]; exact h.at_.row, by rw [← h2]; exact Gr.refl _⟩⟩
theorem listInfo : (Tryd.prog.info? 33).map (fun i => (i.zero, i.size, i.bytes)) = some (some (.agg #[.slice none 0 0, .int .i64 0]), 2, 32) := by kernel_rfl
/-- make([]queue.List, n), n empty lists. -/
theorem wpList_make_lists {w : World} {ops : Array Oper} {rest : List Oper} {o : Oper} {a : Act} {Q : Exit → Act → World → Prop} (hg : o.guard = none) (l c : Operand) (t : TypeId) (hop : o.op = Op.makeSlice t l c) (h1 : Tryd.prog.underlying t = some (.slice 33))
    (kl kc : IntKind) (L C : Int) (n : Nat) (hl : a.eval l = .int kl L) (hc : a.eval c = .int kc C) (hL : L = (n : Int)) (hC : C = (n : Int)) (hn : n ≤ 1000)
    (hK : ∀ w', (∀ k, k < n → LstAt w' w.heap.size (k * 2) (.slice none 0 0) []) → Gr w w' → wpList Tryd.prog ops Q rest (a.put o.dst (.slice (some ⟨w.heap.size, 0, none⟩) n n)) w') :
    wpList Tryd.prog ops Q (o :: rest) a w := by
  obtain ⟨i0, hi, hz0, hz1, hz2⟩ := info_parts listInfo
  refine wpList_make_full w hg l c t hop w.heap.size 33 i0 (.agg #[.slice none 0 0, .int .i64 0]) 2 h1 hi hz0 hz1 kl kc L C n hl hc hL hC (by rw [hz2]; omega) (by unfold maxLen; omega) (Nat.le_refl _) fun w' hown hgr => hK w' ?_ ((Gr.refl w).grown hgr (fun k hk => by cases hk))
  obtain ⟨_, h2⟩ := hown
  rcases h2 with ⟨h2, _⟩ | ⟨g, cap, cur, hv, _, hh, _, _, hsz, htk⟩
  · simp at h2
  · simp at hv
    obtain ⟨rfl, rfl⟩ := hv
    have e1 : (Value.agg #[.slice none 0 0, .int .i64 0]).cells = #[.slice none 0 0, .int .i64 0] := rfl
    rw [e1, List.take_of_length_le (by simp; omega)] at htk
    have hcell : ∀ j, j < n * 2 → cur[j]? = some (if j % 2 = 0 then .slice none 0 0 else .int .i64 0) := fun j hj => by
      rw [← Array.getElem?_toList, htk]
      rcases Nat.mod_two_eq_zero_or_one j with e | e <;> simp [madeCells, hj, e]
    intro k hk
    refine ⟨?_, ?_, ?_, ?_, RowH.nil _ _⟩
    · have := hcell (k * 2) (by omega)
      rw [if_pos (by omega)] at this
      simp [World.cell?, hh, this]
    · have := hcell (k * 2 + 1) (by omega)
      rw [if_neg (by omega)] at this
      simp [World.cell?, hh, this, sumLen]
    · simp [World.frozen?, hh]
    · simp [World.frozen?, hh]
def HshOk (lists salt room : Int) : Prop := (1 ≤ lists ∧ lists ≤ 64) ∧ (0 ≤ salt ∧ salt ≤ 1000000) ∧ (1 ≤ room ∧ room ≤ 1000000)
set_option maxRecDepth 100000 in
set_option maxHeartbeats 4000000 in
theorem newhas_ok (q : HasP) (hq : q.Ok) (w : World) :
    Calls Tryd.prog 26 #[.int .i64 (q.lists : Int), .int .i64 q.salt, .int .i64 q.room] w fun e w' => ∃ p ob, e = .returned (.tuple #[.pointer (some ⟨p, 0, none⟩), .nilIface]) ∧ HasC w' p ob q (.slice none 0 0) (fun _ => .slice none 0 0) (fun _ => []) [] 0 ∧ Gr w w' ∧ w.heap.size ≤ p ∧ w.heap.size ≤ ob := by
  obtain ⟨h1, h2⟩ := hq.lists
  obtain ⟨h3, h4⟩ := hq.salt
  obtain ⟨h5, h6⟩ := hq.room
  have i1 : (1 : Int) ≤ (q.lists : Int) := by omega
  have i2 : (q.lists : Int) ≤ 64 := by omega
  have HP := Lib.hid (show 0 < q.lists from h1)
  have HLL := Lib.hid h2
  clear h1 h2
  go_enter Tryd.func26, Tryd.ntmps26
  go_wp2_with (at_make; refine wpList_make_lists (by rfl) _ _ _ (by rfl) (by kernel_rfl) .i64 .i64 _ _ q.lists (by rfl) (by rfl) rfl rfl (by have := HLL.out; omega) ?_; intro w1 hl hg1; have HL1 := Lib.hid hl; have HG1 := Lib.hid hg1; clear hl hg1)
  all_goals try (exfalso; omega)
  have hlt : w.heap.size < w1.heap.size := (HL1.out 0 HP.out).lt
  refine bodyPost_ret (v := .tuple #[.pointer (some ⟨w1.heap.size, 0, none⟩), .nilIface]) (by simp [results, Tryd.results26, go_sem]) rfl ⟨w1.heap.size, rfl, w.heap.size, ?_, HG1.out.alloc _, HG1.out.size, Nat.le_refl _⟩
  exact ⟨by simp, by simp, by simp, by simp, by simp, by simp, by simp, IntRow.nil _, (fun g hg => by cases hg), (fun k hk => (HL1.out k hk).gr ((Gr.refl _).alloc _)), (fun i j g _ _ _ e => by cases e), (fun k _ e => by cases e), by omega, HP.out⟩
set_option maxRecDepth 100000 in
set_option maxHeartbeats 4000000 in
theorem newhas_bad (lists salt room : Int) (w : World) (h : ¬ HshOk lists salt room) :
    Calls Tryd.prog 26 #[.int .i64 lists, .int .i64 salt, .int .i64 room] w fun e w' => e = .returned (.tuple #[.pointer none, .iface 23 (.int .i64 2)]) ∧ Gr w w' := by
  have h2 : lists < 1 ∨ (1 ≤ lists ∧ 64 < lists) ∨ (1 ≤ lists ∧ lists ≤ 64 ∧ salt < 0) ∨ (1 ≤ lists ∧ lists ≤ 64 ∧ 0 ≤ salt ∧ 1000000 < salt) ∨ (1 ≤ lists ∧ lists ≤ 64 ∧ 0 ≤ salt ∧ salt ≤ 1000000 ∧ room < 1) ∨ (1 ≤ lists ∧ lists ≤ 64 ∧ 0 ≤ salt ∧ salt ≤ 1000000 ∧ 1 ≤ room ∧ 1000000 < room) := by unfold HshOk at h; omega
  clear h
  rcases h2 with h1 | ⟨h1, h2⟩ | ⟨h1, h2, h3⟩ | ⟨h1, h2, h3, h4⟩ | ⟨h1, h2, h3, h4, h5⟩ | ⟨h1, h2, h3, h4, h5, h6⟩
  all_goals
    go_enter Tryd.func26, Tryd.ntmps26
    go_wp2
    all_goals first
      | (exfalso; omega)
      | exact bodyPost_ret (v := .tuple #[.pointer none, .iface 23 (.int .i64 2)]) (by simp [results, Tryd.results26, go_sem]) rfl ⟨rfl, Gr.refl _⟩
theorem hasck_ok (lists salt room : Int) (w : World) (h : HshOk lists salt room) :
    Calls Tryd.prog 25 #[.int .i64 lists, .int .i64 salt, .int .i64 room] w fun e w' => e = .returned (.int .i64 0) ∧ w = w' := by
  obtain ⟨h1, h2, h3⟩ := h
  have H1 := Lib.hid h1
  have H2 := Lib.hid h2
  have H3 := Lib.hid h3
  clear h1 h2 h3
  go_enter Tryd.func25, Tryd.ntmps25
  go_wp2_with (first
    | (go_at_call 29; (with_reducible refine (within_yes lists 1 64 _ H1.out.1 H1.out.2).mono ?_); rintro e w1 ⟨rfl, rfl⟩)
    | (go_at_call 29; (with_reducible refine (within_yes salt 0 1000000 _ H2.out.1 H2.out.2).mono ?_); rintro e w1 ⟨rfl, rfl⟩)
    | (go_at_call 29; (with_reducible refine (within_yes room 1 1000000 _ H3.out.1 H3.out.2).mono ?_); rintro e w1 ⟨rfl, rfl⟩))
  go_ret
  exact ⟨rfl, rfl⟩
theorem hasck_bad (lists salt room : Int) (w : World) (h : ¬ HshOk lists salt room) :
    Calls Tryd.prog 25 #[.int .i64 lists, .int .i64 salt, .int .i64 room] w fun e w' => e = .returned (.int .i64 2) ∧ w = w' := by
  by_cases h1 : 1 ≤ lists ∧ lists ≤ 64
  · have H1 := Lib.hid h1
    by_cases h2 : 0 ≤ salt ∧ salt ≤ 1000000
    · have H2 := Lib.hid h2
      have H3 := Lib.hid (show room < 1 ∨ 1000000 < room from by unfold HshOk at h; omega)
      clear h h1 h2
      go_enter Tryd.func25, Tryd.ntmps25
      go_wp2_with (first
        | (go_at_call 29; (with_reducible refine (within_yes lists 1 64 _ H1.out.1 H1.out.2).mono ?_); rintro e w1 ⟨rfl, rfl⟩)
        | (go_at_call 29; (with_reducible refine (within_yes salt 0 1000000 _ H2.out.1 H2.out.2).mono ?_); rintro e w1 ⟨rfl, rfl⟩)
        | (go_at_call 29; (with_reducible refine (within_no room 1 1000000 _ H3.out).mono ?_); rintro e w1 ⟨rfl, rfl⟩))
      go_ret
      exact ⟨rfl, rfl⟩
    · have H2 := Lib.hid (show salt < 0 ∨ 1000000 < salt from by omega)
      clear h h1 h2
      go_enter Tryd.func25, Tryd.ntmps25
      go_wp2_with (first
        | (go_at_call 29; (with_reducible refine (within_yes lists 1 64 _ H1.out.1 H1.out.2).mono ?_); rintro e w1 ⟨rfl, rfl⟩)
        | (go_at_call 29; (with_reducible refine (within_no salt 0 1000000 _ H2.out).mono ?_); rintro e w1 ⟨rfl, rfl⟩))
      go_ret
      exact ⟨rfl, rfl⟩
  · have H1 := Lib.hid (show lists < 1 ∨ 64 < lists from by omega)
    clear h h1
    go_enter Tryd.func25, Tryd.ntmps25
    go_wp2_with (go_at_call 29; (with_reducible refine (within_no lists 1 64 _ H1.out).mono ?_); rintro e w1 ⟨rfl, rfl⟩)
    go_ret
    exact ⟨rfl, rfl⟩
end Go.Proofs.YtbpofdfehcbppaaDoor

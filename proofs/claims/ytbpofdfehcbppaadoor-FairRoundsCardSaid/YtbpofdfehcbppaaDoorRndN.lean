/-
  fair.New, millraceref.RoundsCheck. (Printed by genrnd.py.)
-/
import Derived.Test.YtbpofdfehcbppaaDoorRndI
import Derived.Test.YtbpofdfehcbppaaDoorWithin
import Derived.BigGuardPart
namespace Go.Proofs.YtbpofdfehcbppaaDoor
open Go.RowKit Go.Extern.Stop Go.Stop Go.Extern

section
variable {ev : Operand → Value} {o : Oper} {w : World} {x y z : Operand} {u : Value}
theorem rnn_len___int {a : Option Addr} {n c : Nat} (ho : o.op = .call { callee := .builtin .len, args := #[x], argTypes := #[42] }) (h : ev x = .slice a n c) : (execOp ev o).run Tryd.prog w = .ok (.value (.int .i64 (n : Int))) w := by
  simp [execOp, ho, h, resolve, invoke, builtin, Builtin.len_, go_sem]
theorem rnn_sub {m n r : Int} (ho : o.op = .binOp .sub 3 x y 3) (h : ev x = .int .i64 m) (k : ev y = .int .i64 n) (hb : IntKind.i64.wrap (m - n) = r) : (execOp ev o).run Tryd.prog w = .ok (.value (.int .i64 r)) w := by
  subst hb
  simp [execOp, ho, h, k, go_sem]
theorem rnn_min {m n r : Int} (ho : o.op = .call { callee := .builtin .min, args := #[x, y], argTypes := #[3, 3] }) (h : ev x = .int .i64 m) (k : ev y = .int .i64 n) (hb : min m n = r) : (execOp ev o).run Tryd.prog w = .ok (.value (.int .i64 r)) w := by
  subst hb
  simp [execOp, ho, h, k, resolve, invoke, builtin, go_sem]
  omega
theorem rnn_idxs___int {b off n c j : Nat} (ho : o.op = .indexAddr 42 x y) (h : ev x = .slice (some ⟨b, off, none⟩) n c) (k : ev y = .int .i64 (j : Int)) (hj : j < n) : (execOp ev o).run Tryd.prog w = .ok (.value (.pointer (some ⟨b, off + j, none⟩))) w := by
  have h0 : (0 : Int) ≤ (j : Int) := by omega
  have h1 : (j : Int) < (n : Int) := by omega
  simp [execOp, ho, h, k, h0, h1, go_sem]
theorem rnn_fa_fair_Rounds_1 {p o' : Nat} (ho : o.op = .fieldAddr 131 x 1) (h : ev x = .pointer (some ⟨p, o', none⟩)) : (execOp ev o).run Tryd.prog w = .ok (.value (.pointer (some ⟨p, o' + 32, none⟩))) w := by
  simp [execOp, ho, h, go_sem]
theorem rnn_idx__16_int {p o' j : Nat} (ho : o.op = .indexAddr 129 x y) (h : ev x = .pointer (some ⟨p, o', none⟩)) (k : ev y = .int .i64 (j : Int)) (hj : j < 16) : (execOp ev o).run Tryd.prog w = .ok (.value (.pointer (some ⟨p, o' + j, none⟩))) w := by
  have h0 : (0 : Int) ≤ (j : Int) := by omega
  have h1 : (j : Int) < 16 := by omega
  simp [execOp, ho, h, k, h0, h1, go_sem]
end

def QOk (z : Int) : Prop := 1 ≤ z ∧ z ≤ 1000000
theorem first_bad {zs : List Int} (h : ¬ ∀ z ∈ zs, QOk z) : ∃ i, i < zs.length ∧ ¬ QOk (zs.getD i 0) ∧ ∀ j, j < i → QOk (zs.getD j 0) := by
  induction zs with
  | nil => exact absurd (fun z hz => by cases hz) h
  | cons z r ih =>
    by_cases h1 : QOk z
    · have h2 : ¬ ∀ y ∈ r, QOk y := fun e => h (fun y hy => (List.mem_cons.1 hy).elim (fun e1 => by rw [e1]; exact h1) (e y))
      obtain ⟨i, a, b, c⟩ := ih h2
      refine ⟨i + 1, by simp; omega, by simpa using b, fun j hj => ?_⟩
      cases j with
      | zero => simpa using h1
      | succ j => simpa using c j (by omega)
    · exact ⟨0, by simp, by simpa using h1, fun j hj => by omega⟩
theorem all_at {zs : List Int} (h : ∀ z ∈ zs, QOk z) {j : Nat} (hj : j < zs.length) : QOk (zs.getD j 0) := by
  rw [List.getD_eq_getElem?_getD, List.getElem?_eq_getElem hj]
  exact h _ (List.getElem_mem hj)
theorem newq_no (z : Int) (h : QOk z) (w : World) : Calls Tryd.prog 40 #[.int .i64 z] w fun e w' => e = .returned (.bool false) ∧ w = w' := by
  obtain ⟨h1, h2⟩ := h
  go_enter Tryd.func40, Tryd.ntmps40
  go_wp2
  all_goals first
    | (exfalso; omega)
    | (rw [decide_eq_false (show ¬ (1000000 : Int) < z by omega)]; go_ret; exact ⟨rfl, rfl⟩)
    | (go_ret; exact ⟨rfl, rfl⟩)
theorem newq_yes (z : Int) (h : ¬ QOk z) (w : World) : Calls Tryd.prog 40 #[.int .i64 z] w fun e w' => e = .returned (.bool true) ∧ w = w' := by
  have h2 : z < 1 ∨ (1 ≤ z ∧ 1000000 < z) := by unfold QOk at h; omega
  clear h
  rcases h2 with h1 | ⟨h1, h2⟩
  all_goals
    go_enter Tryd.func40, Tryd.ntmps40
    go_wp2
    all_goals first
      | (exfalso; omega)
      | (go_ret; exact ⟨rfl, rfl⟩)
set_option maxRecDepth 100000 in
set_option maxHeartbeats 4000000 in
theorem qidx_bad (zv : Value) (zs : List Int) (w : World) (h : Ints w zv zs) (hn : zs.length ≤ 16) (ib : Nat) (hib : ib < zs.length) (hb : ¬ QOk (zs.getD ib 0)) (hg : ∀ j, j < ib → QOk (zs.getD j 0)) :
    Calls Tryd.prog 44 #[zv, .func (.func 40) #[] #[]] w fun e w' => e = .returned (.int .i64 (ib : Int)) ∧ w = w' := by
  obtain ⟨zb, zo, zc, rfl, _⟩ := ints_cells h (by omega)
  have HZ := Lib.hid h
  have HB := Lib.hid hb
  have HG := Lib.hid hg
  have HN := Lib.hid hn
  have HI := Lib.hid hib
  clear h hb hg hn hib
  go_enter Tryd.func44, Tryd.ntmps44
  go_wp2
  go_loop [8] (fun s8 => ∃ (i : Nat), s8 = .int .i64 (i : Int) ∧ i ≤ ib) (fun s => zs.length - (intOf s).toNat)
  case atStart => exact ⟨0, rfl, Nat.zero_le _⟩
  case round =>
    obtain ⟨i, rfl, hi⟩ := hrel
    have HIL := Lib.hid (show i < zs.length from by have := HI.out; omega)
    have i0 : (0 : Int) ≤ (i : Int) := by omega
    have i1 : (i : Int) < (zs.length : Int) := by have := HIL.out; omega
    have c0 := ints_at HZ.out HIL.out
    have HWI := Lib.hid (show wrap64 ((i : Int) + 1) = (i : Int) + 1 from by have h1 := HIL.out; have h2 := HN.out; unfold wrap64; omega)
    by_cases he : i = ib
    · subst he
      generalize zs.getD i 0 = z at *
      go_wp2_with (go_at_call 40; refine (newq_yes z HB.out _).mono ?_; rintro e w1 ⟨rfl, rfl⟩)
      go_ret
      exact ⟨rfl, rfl⟩
    · have HGI := Lib.hid (HG.out i (by omega))
      generalize zs.getD i 0 = z at *
      go_wp2_with (go_at_call 40; refine (newq_no z HGI.out _).mono ?_; rintro e w1 ⟨rfl, rfl⟩)
      rw [HWI.out]
      go_round
      case rel => exact ⟨i + 1, by go_num, by omega⟩
      case measure => have := HIL.out; simp [intOf]; omega
set_option maxRecDepth 100000 in
set_option maxHeartbeats 4000000 in
theorem qidx_good (zv : Value) (zs : List Int) (w : World) (h : Ints w zv zs) (hn : 0 < zs.length ∧ zs.length ≤ 16) (hg : ∀ z ∈ zs, QOk z) :
    Calls Tryd.prog 44 #[zv, .func (.func 40) #[] #[]] w fun e w' => e = .returned (.int .i64 (-1)) ∧ w = w' := by
  obtain ⟨zb, zo, zc, rfl, _⟩ := ints_cells h hn.1
  have HZ := Lib.hid h
  have HG := Lib.hid hg
  have HN := Lib.hid hn
  clear h hg hn
  go_enter Tryd.func44, Tryd.ntmps44
  go_wp2
  go_loop [8] (fun s8 => ∃ (i : Nat), s8 = .int .i64 (i : Int) ∧ i ≤ zs.length) (fun s => zs.length - (intOf s).toNat)
  case atStart => exact ⟨0, rfl, Nat.zero_le _⟩
  case round =>
    obtain ⟨i, rfl, hi⟩ := hrel
    by_cases hlt : i < zs.length
    · have i0 : (0 : Int) ≤ (i : Int) := by omega
      have i1 : (i : Int) < (zs.length : Int) := by omega
      have c0 := ints_at HZ.out hlt
      have HWI := Lib.hid (show wrap64 ((i : Int) + 1) = (i : Int) + 1 from by have h2 := HN.out; unfold wrap64; omega)
      have HGI := Lib.hid (all_at HG.out hlt)
      generalize zs.getD i 0 = z at *
      go_wp2_with (go_at_call 40; refine (newq_no z HGI.out _).mono ?_; rintro e w1 ⟨rfl, rfl⟩)
      rw [HWI.out]
      go_round
      case rel => exact ⟨i + 1, by go_num, by omega⟩
      case measure => simp [intOf]; omega
    · obtain rfl : i = zs.length := by omega
      have i1 : ¬ (zs.length : Int) < (zs.length : Int) := by omega
      go_wp2
      go_ret
      exact ⟨rfl, rfl⟩
theorem qcont_bad (zv : Value) (zs : List Int) (w : World) (h : Ints w zv zs) (hn : zs.length ≤ 16) (hg : ¬ ∀ z ∈ zs, QOk z) :
    Calls Tryd.prog 39 #[zv, .func (.func 40) #[] #[]] w fun e w' => e = .returned (.bool true) ∧ w = w' := by
  obtain ⟨ib, h1, h2, h3⟩ := first_bad hg
  have HC := Lib.hid (qidx_bad zv zs w h hn ib h1 h2 h3)
  obtain ⟨za, zc, rfl⟩ := ints_shape h
  have i0 : (0 : Int) ≤ (ib : Int) := by omega
  clear h hg h1 h2 h3 hn
  go_enter Tryd.func39, Tryd.ntmps39
  go_wp2_with (go_at_call 44; ((with_reducible refine HC.out.mono ?_); rintro e w1 ⟨rfl, rfl⟩))
  go_ret
  exact ⟨rfl, rfl⟩
theorem qcont_good (zv : Value) (zs : List Int) (w : World) (h : Ints w zv zs) (hn : 0 < zs.length ∧ zs.length ≤ 16) (hg : ∀ z ∈ zs, QOk z) :
    Calls Tryd.prog 39 #[zv, .func (.func 40) #[] #[]] w fun e w' => e = .returned (.bool false) ∧ w = w' := by
  have HC := Lib.hid (qidx_good zv zs w h hn hg)
  obtain ⟨za, zc, rfl⟩ := ints_shape h
  clear h hg hn
  go_enter Tryd.func39, Tryd.ntmps39
  go_wp2_with (go_at_call 44; ((with_reducible refine HC.out.mono ?_); rintro e w1 ⟨rfl, rfl⟩))
  go_ret
  exact ⟨rfl, rfl⟩
theorem rndnew_len (room : Int) (zv : Value) (zs : List Int) (w : World) (h : Ints w zv zs) (hn : zs.length < 1 ∨ 16 < zs.length) :
    Calls Tryd.prog 22 #[.int .i64 room, zv] w fun e w' => e = .returned (.tuple #[.pointer none, .iface 23 (.int .i64 4)]) ∧ Gr w w' := by
  obtain ⟨a, c, rfl⟩ := ints_shape h
  clear h
  rcases hn with h | h
  all_goals
    go_enter Tryd.func22, Tryd.ntmps22
    go_wp2
    all_goals first
      | (exfalso; omega)
      | exact bodyPost_ret (v := .tuple #[.pointer none, .iface 23 (.int .i64 4)]) (by simp [results, Tryd.results22, go_sem]) rfl ⟨rfl, Gr.refl _⟩
theorem rndnew_bad (room : Int) (zv : Value) (zs : List Int) (w : World) (h : Ints w zv zs) (hn : 1 ≤ zs.length ∧ zs.length ≤ 16) (hb : (room < 0 ∨ 1000000 < room) ∨ ¬ ∀ z ∈ zs, QOk z) :
    Calls Tryd.prog 22 #[.int .i64 room, zv] w fun e w' => e = .returned (.tuple #[.pointer none, .iface 23 (.int .i64 2)]) ∧ Gr w w' := by
  by_cases hr : room < 0 ∨ 1000000 < room
  · obtain ⟨a, c, rfl⟩ := ints_shape h
    obtain ⟨n1, n2⟩ := hn
    clear h hb
    rcases hr with hr | hr
    all_goals
      go_enter Tryd.func22, Tryd.ntmps22
      go_wp2
      all_goals first
        | (exfalso; omega)
        | exact bodyPost_ret (v := .tuple #[.pointer none, .iface 23 (.int .i64 2)]) (by simp [results, Tryd.results22, go_sem]) rfl ⟨rfl, Gr.refl _⟩
  · have HC := Lib.hid (qcont_bad zv zs w h hn.2 (hb.resolve_left hr))
    obtain ⟨a, c, rfl⟩ := ints_shape h
    obtain ⟨n1, n2⟩ := hn
    have r1 : 0 ≤ room := by omega
    have r2 : room ≤ 1000000 := by omega
    clear h hb hr
    go_enter Tryd.func22, Tryd.ntmps22
    go_wp2_with (go_at_call 39; ((with_reducible refine HC.out.mono ?_); rintro e w1 ⟨rfl, rfl⟩))
    all_goals first
      | (exfalso; omega)
      | exact bodyPost_ret (v := .tuple #[.pointer none, .iface 23 (.int .i64 2)]) (by simp [results, Tryd.results22, go_sem]) rfl ⟨rfl, Gr.refl _⟩
/-- A new one. -/
def zeroV : RndV := ⟨.slice none 0 0, fun _ => .slice none 0 0, fun _ => [], [], false, fun _ => 0, 0, 0⟩
theorem RndC.setQ {w : World} {p k : Nat} {q : RndP} {s : RndV} (h : RndC w p q s) (hk : k < 16) (x : Int) : RndC (w.setCell ⟨p, 32 + k, none⟩ (.int .i64 x)) p ⟨q.room, fu q.quanta k x⟩ s := by
  have hp : ¬ s.tv.ownBlock = some p := fun e => (h.tap p e).1 rfl
  refine ⟨fun i a b => ?_, fun i => by simpa using h.free i, Row.sav h.turn (.set p (32 + k) _) (fun g hg e => hp (by rw [← e]; exact hg)), h.tap, fun i hi => (h.lst i hi).away (by omega) (by omega) (h.vpp i hi) _, h.vap, h.vpp⟩
  by_cases e : i = 32 + k
  · subst e
    rw [rcell_q _ _ hk]
    show _ = some (Value.int .i64 (fu q.quanta k x k))
    rw [fu_at]
    exact cell_ss (h.cells _ a b)
  · rw [show rcell ⟨q.room, fu q.quanta k x⟩ s i = rcell q s i from by
      unfold rcell
      by_cases e1 : i < 48
      · rw [if_pos e1, if_pos e1]
        show Value.int .i64 (fu q.quanta k x (i - 32)) = _
        rw [fu_ne _ _ (by omega)]
      · rw [if_neg e1, if_neg e1]]
    exact cell_so (h.cells i a b) (fun e2 => e (by injection e2 with _ e3; exact e3.symm))
/-- The cells of a zero one. -/
def zcell (j : Nat) : Value := if j < 32 then (if j % 2 = 0 then .slice none 0 0 else .int .i64 0) else if j = 65 then .slice none 0 0 else if j = 66 then .bool false else .int .i64 0
set_option maxRecDepth 100000 in
theorem zcells : ∀ j : Nat, j < 69 → Tryd.zeroCells131[j]? = some (zcell j)
  | 0, _ => rfl
  | 1, _ => rfl
  | 2, _ => rfl
  | 3, _ => rfl
  | 4, _ => rfl
  | 5, _ => rfl
  | 6, _ => rfl
  | 7, _ => rfl
  | 8, _ => rfl
  | 9, _ => rfl
  | 10, _ => rfl
  | 11, _ => rfl
  | 12, _ => rfl
  | 13, _ => rfl
  | 14, _ => rfl
  | 15, _ => rfl
  | 16, _ => rfl
  | 17, _ => rfl
  | 18, _ => rfl
  | 19, _ => rfl
  | 20, _ => rfl
  | 21, _ => rfl
  | 22, _ => rfl
  | 23, _ => rfl
  | 24, _ => rfl
  | 25, _ => rfl
  | 26, _ => rfl
  | 27, _ => rfl
  | 28, _ => rfl
  | 29, _ => rfl
  | 30, _ => rfl
  | 31, _ => rfl
  | 32, _ => rfl
  | 33, _ => rfl
  | 34, _ => rfl
  | 35, _ => rfl
  | 36, _ => rfl
  | 37, _ => rfl
  | 38, _ => rfl
  | 39, _ => rfl
  | 40, _ => rfl
  | 41, _ => rfl
  | 42, _ => rfl
  | 43, _ => rfl
  | 44, _ => rfl
  | 45, _ => rfl
  | 46, _ => rfl
  | 47, _ => rfl
  | 48, _ => rfl
  | 49, _ => rfl
  | 50, _ => rfl
  | 51, _ => rfl
  | 52, _ => rfl
  | 53, _ => rfl
  | 54, _ => rfl
  | 55, _ => rfl
  | 56, _ => rfl
  | 57, _ => rfl
  | 58, _ => rfl
  | 59, _ => rfl
  | 60, _ => rfl
  | 61, _ => rfl
  | 62, _ => rfl
  | 63, _ => rfl
  | 64, _ => rfl
  | 65, _ => rfl
  | 66, _ => rfl
  | 67, _ => rfl
  | 68, _ => rfl
  | j + 69, h => absurd h (by omega)
theorem rnd_born (room : Int) (w : World) {p : Nat} (hp : p = w.heap.size) : RndC (w.alloc (.cells (Tryd.zeroCells131.setIfInBounds 48 (.int .i64 room)) 131)) p ⟨room, fun _ => 0⟩ zeroV := by
  have hc : ∀ j, j < 69 → j ≠ 48 → (w.alloc (.cells (Tryd.zeroCells131.setIfInBounds 48 (.int .i64 room)) 131)).cell? ⟨p, j, none⟩ = some (zcell j) := fun j hj h48 => by
    rw [alloc_cell w p hp, Array.getElem?_setIfInBounds_ne (fun e => h48 e.symm)]
    exact zcells j hj
  have h48 : (w.alloc (.cells (Tryd.zeroCells131.setIfInBounds 48 (.int .i64 room)) 131)).cell? ⟨p, 48, none⟩ = some (.int .i64 room) := by
    rw [alloc_cell w p hp]
    rfl
  have hf : ∀ j, (w.alloc (.cells (Tryd.zeroCells131.setIfInBounds 48 (.int .i64 room)) 131)).frozen? ⟨p, j, none⟩ = false := fun j => by subst hp; simp
  refine ⟨fun j a b => ?_, hf, IntRow.nil _, (fun g hg => by cases hg), fun k hk => ⟨?_, ?_, hf _, hf _, RowH.nil _ _⟩, (fun i j g _ _ _ e => by cases e), (fun k _ e => by cases e)⟩
  · by_cases e : j = 48
    · subst e; exact h48
    · rw [hc j b e]
      unfold zcell rcell
      by_cases e1 : j < 48
      · rw [if_neg (by omega), if_neg (by omega), if_neg (by omega), if_pos e1]
      · by_cases e2 : j < 65
        · rw [if_neg (by omega), if_neg (by omega), if_neg (by omega), if_neg e1, if_neg e, if_pos e2]
          rfl
        · by_cases e3 : j = 65
          · subst e3; rfl
          · by_cases e4 : j = 66
            · subst e4; rfl
            · by_cases e5 : j = 67
              · subst e5; rfl
              · have e6 : j = 68 := by omega
                subst e6; rfl
  · rw [hc (k * 2) (by omega) (by omega)]
    unfold zcell
    rw [if_pos (by omega), if_pos (by omega)]
    rfl
  · rw [hc (k * 2 + 1) (by omega) (by omega)]
    unfold zcell
    rw [if_pos (by omega), if_neg (by omega)]
    rfl
theorem RndC.congr {w : World} {p : Nat} {q q' : RndP} {s : RndV} (h : RndC w p q s) (e1 : q.room = q'.room) (e2 : ∀ k, k < 16 → q.quanta k = q'.quanta k) : RndC w p q' s := by
  refine ⟨fun j a b => ?_, h.free, h.turn, h.tap, h.lst, h.vap, h.vpp⟩
  rw [h.cells j a b]
  unfold rcell
  by_cases c1 : j < 48
  · rw [if_pos c1, if_pos c1, e2 (j - 32) (by omega)]
  · rw [if_neg c1, if_neg c1, e1]
set_option maxRecDepth 100000 in
set_option maxHeartbeats 4000000 in
theorem rndnew_ok (room : Int) (hr : 0 ≤ room ∧ room ≤ 1000000) (zv : Value) (zs : List Int) (w : World) (h : Ints w zv zs) (hn : 1 ≤ zs.length ∧ zs.length ≤ 16) (hg : ∀ z ∈ zs, QOk z) :
    Calls Tryd.prog 22 #[.int .i64 room, zv] w fun e w' => ∃ p, e = .returned (.tuple #[.pointer (some ⟨p, 0, none⟩), .nilIface]) ∧ RndC w' p ⟨room, qz zs⟩ zeroV ∧ Gr w w' ∧ w.heap.size ≤ p := by
  have HC := Lib.hid (qcont_good zv zs w h hn hg)
  obtain ⟨zb, zo, zc, rfl, _⟩ := ints_cells h hn.1
  obtain ⟨m, hm⟩ : ∃ m, zs.length = m + 1 := ⟨zs.length - 1, by omega⟩
  have HZ := Lib.hid h
  have HML := Lib.hid (show m < 16 ∧ zs.length = m + 1 by omega)
  rw [hm] at HC HZ ⊢
  obtain ⟨n1, n2⟩ := hn
  rw [hm] at n1 n2
  obtain ⟨r1, r2⟩ := hr
  clear h hg hm
  go_enter Tryd.func22, Tryd.ntmps22
  go_upto_region 6 with (go_at_call 39; ((with_reducible refine HC.out.mono ?_); rintro e w1 ⟨rfl, rfl⟩))
  all_goals try (exfalso; omega)
  obtain ⟨w1, hw1⟩ : ∃ u, u = w.alloc (.cells (Tryd.zeroCells131.setIfInBounds 48 (.int .i64 room)) 131) := ⟨_, rfl⟩
  obtain ⟨p, hp⟩ : ∃ u, u = w.heap.size := ⟨_, rfl⟩
  have HA1 : Hid (RndC w1 p ⟨room, fun _ => 0⟩ zeroV) := Lib.hid (by rw [hw1]; exact rnd_born room w hp)
  have HG1 : Hid (Gr w w1) := Lib.hid (by rw [hw1]; exact (Gr.refl _).alloc _)
  have HP : Hid (w.heap.size ≤ p ∧ p < w1.heap.size) := Lib.hid ⟨by omega, HA1.out.lt⟩
  rw [← hw1, ← hp]
  clear hw1 hp
  go_wp2
  go_loopw [31] (fun s31 wr => ∃ (ii : Nat), ii ≤ 16 ∧ s31 = .int .i64 (ii : Int) ∧ Hid (Gr w wr ∧ RndC wr p ⟨room, fun k => if k < ii then qz zs k else 0⟩ zeroV)) (fun s _ => 16 - (intOf s).toNat)
  case atStart => exact ⟨0, by omega, rfl, Lib.hid ⟨HG1.out, HA1.out.congr rfl (fun k _ => (show (0 : Int) = if k < 0 then qz zs k else 0 from (if_neg (Nat.not_lt_zero k)).symm))⟩⟩
  case round =>
    obtain ⟨ii, hi, rfl, HK⟩ := hrel
    by_cases hlt : ii < 16
    · have j1 : (ii : Int) < 16 := by omega
      have j0 : (0 : Int) ≤ (ii : Int) := by omega
      have HKQ := Lib.hid hlt
      have HZR := Lib.hid (HZ.out.gr HK.out.1)
      have DM := Lib.hid (show IntKind.i64.wrap (((m + 1 : Nat) : Int) - 1) = (m : Int) from by have := HML.out; rw [IntKind.wrap_i64]; omega)
      obtain ⟨k, hk⟩ : ∃ k, k = min ii m := ⟨_, rfl⟩
      have DK := Lib.hid (show min (ii : Int) (m : Int) = (k : Int) from by omega)
      have HKM := Lib.hid (show k < m + 1 by omega)
      have HZK := Lib.hid (show wr.cell? ⟨zb, zo + k, none⟩ = some (.int .i64 (qz zs ii)) from by
        have h1 := ints_at HZR.out (show k < zs.length by have := HML.out.2; omega)
        unfold qz
        rw [HML.out.2, Nat.add_sub_cancel, ← hk]
        exact h1)
      clear hk
      go_upto_region 9 with fail
      refine wp_region_gg (n := 13) [Fg.eq (.pointer (some ⟨p, 0, none⟩)), Fg.eq (.int .i64 (ii : Int)), Fg.eq (.slice (some ⟨zb, zo, none⟩) (m + 1) zc), Fg.eq (.int .i64 (ii : Int)), Fg.eq (.slice (some ⟨zb, zo, none⟩) (m + 1) zc), Fg.eq (.int .i64 (((m + 1 : Nat) : Int) : Int)), Fg.eq (.int .i64 ((m : Int))), Fg.eq (.int .i64 ((k : Int))), Fg.eq (.pointer (some ⟨zb, zo + k, none⟩)), Fg.eq (.int .i64 (qz zs ii)), Fg.eq (.pointer (some ⟨p, 0, none⟩)), Fg.eq (.pointer (some ⟨p, 32, none⟩)), Fg.eq (.pointer (some ⟨p, 32 + ii, none⟩))] [34, 35, 36, 37, 38, 39, 40, 41, 42, 43, 44, 45, 46] (by kernel_rfl) (by kernel_rfl) (by kernel_rfl) ?_ ?_
      · intro L i o' ac w1 hi ho hA
        have hgr : Gr wr w1 := (Gr.refl wr).drew.trans hA.gr
        match i, hi with
        | 0, _ =>
          obtain rfl := Option.some.inj ho
          exact gg_plain rfl (gstep_val (q_move rfl (show ac.eval (.tmp 6) = .pointer (some ⟨p, 0, none⟩) from hA.other 6 (by decide))) rfl)
        | 1, _ =>
          obtain rfl := Option.some.inj ho
          exact gg_plain rfl (gstep_val (q_move rfl (show ac.eval (.tmp 7) = .int .i64 (ii : Int) from hA.other 7 (by decide))) rfl)
        | 2, _ =>
          obtain rfl := Option.some.inj ho
          exact gg_plain rfl (gstep_val (q_move rfl (show ac.eval (.tmp 1) = .slice (some ⟨zb, zo, none⟩) (m + 1) zc from hA.other 1 (by decide))) rfl)
        | 3, _ =>
          obtain rfl := Option.some.inj ho
          exact gg_plain rfl (gstep_val (q_move rfl (show ac.eval (.tmp 7) = .int .i64 (ii : Int) from hA.other 7 (by decide))) rfl)
        | 4, _ =>
          obtain rfl := Option.some.inj ho
          exact gg_plain rfl (gstep_val (q_move rfl (show ac.eval (.tmp 1) = .slice (some ⟨zb, zo, none⟩) (m + 1) zc from hA.other 1 (by decide))) rfl)
        | 5, _ =>
          obtain rfl := Option.some.inj ho
          exact gg_plain rfl (gstep_val (rnn_len___int rfl (hA.fact 4 (hA.dep 4 (by kernel_rfl) (by decide)))) rfl)
        | 6, _ =>
          obtain rfl := Option.some.inj ho
          exact gg_plain rfl (gstep_val (rnn_sub rfl (hA.fact 5 (hA.dep 5 (by kernel_rfl) (by decide))) rfl (DM.out)) rfl)
        | 7, _ =>
          obtain rfl := Option.some.inj ho
          exact gg_plain rfl (gstep_val (rnn_min rfl (hA.fact 3 (hA.dep 3 (by kernel_rfl) (by decide))) (hA.fact 6 (hA.dep 6 (by kernel_rfl) (by decide))) (DK.out)) rfl)
        | 8, _ =>
          obtain rfl := Option.some.inj ho
          exact gg_plain rfl (gstep_val (rnn_idxs___int rfl (hA.fact 2 (hA.dep 2 (by kernel_rfl) (by decide))) (hA.fact 7 (hA.dep 7 (by kernel_rfl) (by decide))) (HKM.out)) rfl)
        | 9, _ =>
          obtain rfl := Option.some.inj ho
          exact gg_plain rfl (gstep_val (q_loadI rfl (hA.fact 8 (hA.dep 8 (by kernel_rfl) (by decide))) (hgr.cell HZK.out)) rfl)
        | 10, _ =>
          obtain rfl := Option.some.inj ho
          exact gg_plain rfl (gstep_val (q_nil rfl (hA.fact 0 (hA.dep 0 (by kernel_rfl) (by decide)))) rfl)
        | 11, _ =>
          obtain rfl := Option.some.inj ho
          exact gg_plain rfl (gstep_val (rnn_fa_fair_Rounds_1 rfl (hA.fact 10 (hA.dep 10 (by kernel_rfl) (by decide)))) rfl)
        | 12, _ =>
          obtain rfl := Option.some.inj ho
          exact gg_plain rfl (gstep_val (rnn_idx__16_int rfl (hA.fact 11 (hA.dep 11 (by kernel_rfl) (by decide))) (hA.fact 1 (hA.dep 1 (by kernel_rfl) (by decide))) (HKQ.out)) rfl)
        | k + 13, hk => exact absurd (show k + 13 < 13 from hk) (by omega)
      · intro vz wa hg5 hv
        have HGX := Lib.hid ((Gr.refl wr).drew.trans hg5)
        have v43 : vz 9 = .int .i64 (qz zs ii) := hv 9 (by omega)
        have v46 : vz 12 = .pointer (some ⟨p, 32 + ii, none⟩) := hv 12 (by omega)
        clear hv hg5
        simp only [putN, List.drop_succ_cons, List.drop_zero, List.getElem?_cons_succ, List.getElem?_cons_zero]
        generalize vz 9 = z43 at *
        subst v43
        generalize vz 12 = z46 at *
        subst v46
        generalize vz 0 = z34 at *
        generalize vz 1 = z35 at *
        generalize vz 2 = z36 at *
        generalize vz 3 = z37 at *
        generalize vz 4 = z38 at *
        generalize vz 5 = z39 at *
        generalize vz 6 = z40 at *
        generalize vz 7 = z41 at *
        generalize vz 8 = z42 at *
        generalize vz 10 = z44 at *
        generalize vz 11 = z45 at *
        have HK2 := Lib.hid (And.intro (HK.out.1.trans HGX.out) (HK.out.2.gr HGX.out))
        have c32 := HK2.out.2.quantum HKQ.out
        have f32 := HK2.out.2.free (32 + ii)
        go_wp2
        have HK3 := Lib.hid (show Gr w (wa.setCell ⟨p, 32 + ii, none⟩ (.int .i64 (qz zs ii))) ∧ RndC (wa.setCell ⟨p, 32 + ii, none⟩ (.int .i64 (qz zs ii))) p ⟨room, fun k => if k < ii + 1 then qz zs k else 0⟩ zeroV from ⟨HK2.out.1.setCell' (show ¬ p < w.heap.size by have := HP.out; omega) _, (HK2.out.2.setQ HKQ.out (qz zs ii)).congr rfl (fun k _ => by
          show fu (fun k => if k < ii then qz zs k else 0) ii (qz zs ii) k = if k < ii + 1 then qz zs k else 0
          by_cases e : k = ii
          · rw [e, fu_at, if_pos (by omega)]
          · rw [fu_ne _ _ e]
            by_cases e2 : k < ii
            · rw [if_pos e2, if_pos (by omega)]
            · rw [if_neg e2, if_neg (by omega)])⟩)
        go_roundw
        case measure => simp [intOf]; omega
        case rel => exact ⟨ii + 1, by omega, by go_num, HK3⟩
    · obtain rfl : ii = 16 := by omega
      have j1 : ¬ ((16 : Nat) : Int) < 16 := by omega
      go_wp2
      refine bodyPost_ret (v := .tuple #[.pointer (some ⟨p, 0, none⟩), .nilIface]) (by simp [results, Tryd.results22, go_sem]) rfl ⟨p, rfl, HK.out.2.congr rfl (fun k hk => if_pos hk), HK.out.1, HP.out.1⟩
theorem rndck_len (room : Int) (zv : Value) (zs : List Int) (w : World) (h : Ints w zv zs) (hn : zs.length < 1 ∨ 16 < zs.length) :
    Calls Tryd.prog 21 #[.int .i64 room, zv] w fun e w' => e = .returned (.int .i64 4) ∧ w = w' := by
  have HW := Lib.hid (fun u => within_no (zs.length : Int) 1 16 u (by omega))
  obtain ⟨a, c, rfl⟩ := ints_shape h
  clear h hn
  go_enter Tryd.func21, Tryd.ntmps21
  go_wp2_with (go_at_call 29; (with_reducible refine (HW.out _).mono ?_); rintro e w1 ⟨rfl, rfl⟩)
  go_ret
  exact ⟨rfl, rfl⟩
theorem rndck_room (room : Int) (zv : Value) (zs : List Int) (w : World) (h : Ints w zv zs) (hn : 1 ≤ zs.length ∧ zs.length ≤ 16) (hr : room < 0 ∨ 1000000 < room) :
    Calls Tryd.prog 21 #[.int .i64 room, zv] w fun e w' => e = .returned (.int .i64 2) ∧ w = w' := by
  have HW := Lib.hid (fun u => within_yes (zs.length : Int) 1 16 u (by omega) (by omega))
  have HR := Lib.hid (fun u => within_no room 0 1000000 u hr)
  obtain ⟨a, c, rfl⟩ := ints_shape h
  clear h hn hr
  go_enter Tryd.func21, Tryd.ntmps21
  go_wp2_with (first
    | (go_at_call 29; (with_reducible refine (HW.out _).mono ?_); rintro e w1 ⟨rfl, rfl⟩)
    | (go_at_call 29; (with_reducible refine (HR.out _).mono ?_); rintro e w1 ⟨rfl, rfl⟩))
  go_ret
  exact ⟨rfl, rfl⟩
set_option maxRecDepth 100000 in
set_option maxHeartbeats 4000000 in
theorem rndck_ok (room : Int) (zv : Value) (zs : List Int) (w : World) (h : Ints w zv zs) (hn : 1 ≤ zs.length ∧ zs.length ≤ 16) (hr : 0 ≤ room ∧ room ≤ 1000000) (hg : ∀ z ∈ zs, QOk z) :
    Calls Tryd.prog 21 #[.int .i64 room, zv] w fun e w' => e = .returned (.int .i64 0) ∧ w = w' := by
  have HW := Lib.hid (fun u => within_yes (zs.length : Int) 1 16 u (by omega) (by omega))
  have HR := Lib.hid (fun u => within_yes room 0 1000000 u hr.1 hr.2)
  obtain ⟨zb, zo, zc, rfl, _⟩ := ints_cells h hn.1
  have HZ := Lib.hid h
  have HG := Lib.hid hg
  have HN := Lib.hid hn
  clear h hn hr hg
  go_enter Tryd.func21, Tryd.ntmps21
  go_wp2_with (first
    | (go_at_call 29; (with_reducible refine (HW.out _).mono ?_); rintro e w1 ⟨rfl, rfl⟩)
    | (go_at_call 29; (with_reducible refine (HR.out _).mono ?_); rintro e w1 ⟨rfl, rfl⟩))
  go_loop [16] (fun s16 => ∃ (i : Nat), s16 = .int .i64 (i : Int) ∧ i ≤ zs.length) (fun s => zs.length - (intOf s).toNat)
  case atStart => exact ⟨0, rfl, Nat.zero_le _⟩
  case round =>
    obtain ⟨i, rfl, hi⟩ := hrel
    by_cases hlt : i < zs.length
    · have i0 : (0 : Int) ≤ (i : Int) := by omega
      have i1 : (i : Int) < (zs.length : Int) := by omega
      have c0 := ints_at HZ.out hlt
      have HWI := Lib.hid (show wrap64 ((i : Int) + 1) = (i : Int) + 1 from by have h2 := HN.out; unfold wrap64; omega)
      have HGI := Lib.hid (all_at HG.out hlt)
      generalize zs.getD i 0 = z at *
      go_wp2_with (go_at_call 29; refine (within_yes z 1 1000000 _ HGI.out.1 HGI.out.2).mono ?_; rintro e w1 ⟨rfl, rfl⟩)
      rw [HWI.out]
      go_round
      case rel => exact ⟨i + 1, by go_num, by omega⟩
      case measure => simp [intOf]; omega
    · obtain rfl : i = zs.length := by omega
      have i1 : ¬ (zs.length : Int) < (zs.length : Int) := by omega
      go_wp2
      go_ret
      exact ⟨rfl, rfl⟩
set_option maxRecDepth 100000 in
set_option maxHeartbeats 4000000 in
theorem rndck_bad (room : Int) (zv : Value) (zs : List Int) (w : World) (h : Ints w zv zs) (hn : 1 ≤ zs.length ∧ zs.length ≤ 16) (hr : 0 ≤ room ∧ room ≤ 1000000) (hg : ¬ ∀ z ∈ zs, QOk z) :
    Calls Tryd.prog 21 #[.int .i64 room, zv] w fun e w' => e = .returned (.int .i64 2) ∧ w = w' := by
  obtain ⟨ib, hib, hb, hgd⟩ := first_bad hg
  have HW := Lib.hid (fun u => within_yes (zs.length : Int) 1 16 u (by omega) (by omega))
  have HR := Lib.hid (fun u => within_yes room 0 1000000 u hr.1 hr.2)
  obtain ⟨zb, zo, zc, rfl, _⟩ := ints_cells h hn.1
  have HZ := Lib.hid h
  have HB := Lib.hid hb
  have HG := Lib.hid hgd
  have HN := Lib.hid hn
  have HI := Lib.hid hib
  clear h hn hr hg hib hb hgd
  go_enter Tryd.func21, Tryd.ntmps21
  go_wp2_with (first
    | (go_at_call 29; (with_reducible refine (HW.out _).mono ?_); rintro e w1 ⟨rfl, rfl⟩)
    | (go_at_call 29; (with_reducible refine (HR.out _).mono ?_); rintro e w1 ⟨rfl, rfl⟩))
  go_loop [16] (fun s16 => ∃ (i : Nat), s16 = .int .i64 (i : Int) ∧ i ≤ ib) (fun s => zs.length - (intOf s).toNat)
  case atStart => exact ⟨0, rfl, Nat.zero_le _⟩
  case round =>
    obtain ⟨i, rfl, hi⟩ := hrel
    have HIL := Lib.hid (show i < zs.length from by have := HI.out; omega)
    have i0 : (0 : Int) ≤ (i : Int) := by omega
    have i1 : (i : Int) < (zs.length : Int) := by have := HIL.out; omega
    have c0 := ints_at HZ.out HIL.out
    have HWI := Lib.hid (show wrap64 ((i : Int) + 1) = (i : Int) + 1 from by have h1 := HIL.out; have h2 := HN.out; unfold wrap64; omega)
    by_cases he : i = ib
    · subst he
      generalize zs.getD i 0 = z at *
      go_wp2_with (go_at_call 29; refine (within_no z 1 1000000 _ (by have := HB.out; unfold QOk at this; omega)).mono ?_; rintro e w1 ⟨rfl, rfl⟩)
      go_ret
      exact ⟨rfl, rfl⟩
    · have HGI := Lib.hid (HG.out i (by omega))
      generalize zs.getD i 0 = z at *
      go_wp2_with (go_at_call 29; refine (within_yes z 1 1000000 _ HGI.out.1 HGI.out.2).mono ?_; rintro e w1 ⟨rfl, rfl⟩)
      rw [HWI.out]
      go_round
      case rel => exact ⟨i + 1, by go_num, by omega⟩
      case measure => have := HIL.out; simp [intOf]; omega
end Go.Proofs.YtbpofdfehcbppaaDoor

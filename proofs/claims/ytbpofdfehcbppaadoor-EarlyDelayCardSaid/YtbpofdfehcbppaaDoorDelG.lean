/-
  early.NewDelay, millraceref.DelayCheck; both queues as sides of a play; millracelaw.EarlyDelay, walked.
-/
import Derived.Test.YtbpofdfehcbppaaDoorDelD
import Derived.Test.YtbpofdfehcbppaaDoorDelF
import Derived.Test.YtbpofdfehcbppaaDoorFifoW
import Derived.Test.YtbpofdfehcbppaaDoorPlayD
import Derived.BigGuardPart
namespace Go.Proofs.YtbpofdfehcbppaaDoor
open Go.RowKit Go.Extern.Stop Go.Stop Go.Extern

theorem alloc_free (w : World) (n : Nat) (hn : n = w.heap.size) {cs : Array Value} {t : TypeId} {o : Nat} : (w.alloc (.cells cs t)).frozen? ⟨n, o, none⟩ = false := by subst hn; simp
/-- The program's, as a side of a play. -/
structure DelI (N0 p : Nat) (q : DelP) (w : World) (b : Value) (a : DelS) (n : Nat) : Prop where
  at_ : DelAt w p b q a.l a.ab a.d a.nx a.ct
  ok : DelOk q a n
  lo : N0 ≤ p ∧ ∀ g, b.ownBlock = some g → N0 ≤ g
def delSide (N0 p : Nat) (q : DelP) : Side (delay q) N0 Value where
  I := DelI N0 p q
  F := LFoot p
  lo h hg := hg.elim (fun e => by rw [e]; exact h.lo.1) (h.lo.2 _)
  lt h hg := hg.elim (fun e => by rw [e]; exact h.at_.lt) (fun e => h.at_.f.l.row.lt e)
  sav h k hB := ⟨h.at_.sav k (fun e => (hB _ e).2 (.inl rfl)) (fun g hg e => (hB _ e).2 (.inr hg)), h.ok, h.lo⟩
theorem del_moved {N0 p : Nat} {q : DelP} {w w' : World} {b b' : Value} {a a' : DelS} {n n' : Nat} (h : DelI N0 p q w b a n) (d : DelAt w' p b' q a'.l a'.ab a'.d a'.nx a'.ct) (s : Sav (LFoot p b) w w')
    (o1 : ∀ g, b'.ownBlock = some g → b.ownBlock = some g ∨ w.heap.size ≤ g) (ok : DelOk q a' n') : (delSide N0 p q).Moved w b w' b' a' n' :=
  ⟨⟨d, ok, h.lo.1, fun g hg => (o1 g hg).elim (h.lo.2 g) (fun h1 => Nat.le_trans h.lo.1 (Nat.le_trans (Nat.le_of_lt h.at_.lt) h1))⟩, s, fun g hg => hg.elim (fun e => .inl (.inl e)) (fun e => (o1 g e).imp .inr id)⟩
theorem del_pside {N0 p : Nat} {q : DelP} (hq : q.Ok) : PSide (delSide N0 p q) (.iface 67 (.pointer (some ⟨p, 0, none⟩))) where
  put := ⟨_, _, (fun args w => by kernel_rfl : Meth _ "Put" 76 (.pointer (some ⟨p, 0, none⟩))), fun w b a n now x h g => (fput_any p b a.l q.P 1000000 false now x w h.at_.f hq.P (by decide) (by have := h.ok.l.few; have := h.ok.l.n; omega) h.ok.l.lens (by have := g.len; omega)).mono fun e w' ⟨r, v', h1, h2, h3⟩ => ⟨r, v', h1, h2, del_moved h (h.at_.fifo h3) h3.sav.sav h3.own (delay_put_ok h.ok g).1⟩⟩
  take := ⟨_, _, (fun args w => by kernel_rfl : Meth _ "Take" 99 (.pointer (some ⟨p, 0, none⟩))), fun w b a n now h ht => (deltake_any p b q hq a n h.ok now ht w h.at_).mono fun e w' ⟨r, h1, h2, v', h3, h4, h5⟩ => ⟨r, v', h1, h2, del_moved h h3 h4 h5 (delTake_ok hq ht h.ok).1⟩⟩
  when_ := ⟨_, _, (fun args w => by kernel_rfl : Meth _ "When" 78 (.pointer (some ⟨p, 0, none⟩))), fun w b a n now h _ => (fwhen_any p b a.l q.P 1000000 false now w h.at_.f (by have := h.ok.l.few; have := h.ok.l.n; omega)).mono fun e w' ⟨h1, h2⟩ => ⟨b, h1, .of_gr _ h h2⟩⟩
  few {w b a n} h := ⟨(show a.l.length ≤ 1000 from by have := h.ok.l.few; have := h.ok.l.n; omega), h.ok.l.lens⟩
  fewPut h g := (delay_put_ok h.ok g).2
  fewTake h ht := (delTake_ok hq ht h.ok).2
  len := ⟨_, _, (fun args w => by kernel_rfl : Meth _ "Len" 75 (.pointer (some ⟨p, 0, none⟩))), fun w b a n h => llen_g p 0 b a.l w h.at_.f.l⟩
  bytes := ⟨_, _, (fun args w => by kernel_rfl : Meth _ "Bytes" 74 (.pointer (some ⟨p, 0, none⟩))), fun w b a n h => lbytes_g p 0 b a.l w h.at_.f.l⟩
/-- The reference's. -/
structure RDelI (N0 p : Nat) (q : DelP) (w : World) (b : Value × Value) (a : DelS) (n : Nat) : Prop where
  at_ : RDelAt w p b.1 b.2 q a.l a.ab a.d a.nx a.ct
  ok : DelOk q a n
  lo : N0 ≤ p ∧ (∀ g, b.1.ownBlock = some g → N0 ≤ g) ∧ ∀ g, b.2.ownBlock = some g → N0 ≤ g
def rdelSide (N0 p : Nat) (q : DelP) : Side (delay q) N0 (Value × Value) where
  I := RDelI N0 p q
  F b g := LFoot p b.1 g ∨ b.2.ownBlock = some g
  lo h hg := hg.elim (fun e => e.elim (fun e => by rw [e]; exact h.lo.1) (h.lo.2.1 _)) (h.lo.2.2 _)
  lt h hg := hg.elim (fun e => e.elim (fun e => by rw [e]; exact h.at_.lt) (fun e => h.at_.f.l.row.lt e)) (fun e => (h.at_.ap _ e).2.2)
  sav h k hB := ⟨h.at_.sav k (fun e => (hB _ e).2 (.inl (.inl rfl))) (fun g hg e => (hB _ e).2 (.inl (.inr hg))) (fun g hg e => (hB _ e).2 (.inr hg)), h.ok, h.lo⟩
theorem rdel_moved {N0 p : Nat} {q : DelP} {w w' : World} {b b' : Value × Value} {a a' : DelS} {n n' : Nat} (h : RDelI N0 p q w b a n) (d : RDelAt w' p b'.1 b'.2 q a'.l a'.ab a'.d a'.nx a'.ct) (s : Sav (LFoot p b.1) w w')
    (o1 : ∀ g, b'.1.ownBlock = some g → b.1.ownBlock = some g ∨ w.heap.size ≤ g) (o2 : ∀ g, b'.2.ownBlock = some g → b.2.ownBlock = some g ∨ w.heap.size ≤ g) (ok : DelOk q a' n') : (rdelSide N0 p q).Moved w b w' b' a' n' :=
  have hN : N0 ≤ w.heap.size := Nat.le_trans h.lo.1 (Nat.le_of_lt h.at_.lt)
  ⟨⟨d, ok, h.lo.1, fun g hg => (o1 g hg).elim (h.lo.2.1 g) (Nat.le_trans hN), fun g hg => (o2 g hg).elim (h.lo.2.2 g) (Nat.le_trans hN)⟩, s.mono fun _ => .inl,
    fun g hg => hg.elim (fun e => e.elim (fun e => .inl (.inl (.inl e))) (fun e => (o1 g e).imp (fun e => .inl (.inr e)) id)) (fun e => (o2 g e).imp .inr id)⟩
theorem rdel_side {N0 p : Nat} {q : DelP} (hq : q.Ok) : RSide (rdelSide N0 p q) (.iface 72 (.pointer (some ⟨p, 0, none⟩))) where
  put := ⟨_, _, (fun args w => by kernel_rfl : Meth _ "Put" 84 (.pointer (some ⟨p, 0, none⟩))), fun w b a n now x h g => (rfput_any p b.1 a.l q.P 1000000 false now x w h.at_.f hq.P (by decide) (by have := h.ok.l.few; have := h.ok.l.n; omega) h.ok.l.lens (by have := g.len; omega)).mono fun e w' ⟨r, v', h1, h2, h3⟩ => ⟨r, (v', b.2), h1, h2, rdel_moved h (h.at_.fifo h3) h3.sav.sav h3.own (fun _ => .inl) (delay_put_ok h.ok g).1⟩⟩
  take := ⟨_, _, (fun args w => by kernel_rfl : Meth _ "Take" 103 (.pointer (some ⟨p, 0, none⟩))), fun w b a n now h ht => (rdeltake_any p b.1 b.2 q hq a n h.ok now ht w h.at_).mono fun e w' ⟨r, h1, h2, v', av', h3, h4, h5, h6⟩ => ⟨r, (v', av'), h1, h2, rdel_moved h h3 h4 h5 h6 (delTake_ok hq ht h.ok).1⟩⟩
  when_ := ⟨_, _, (fun args w => by kernel_rfl : Meth _ "When" 86 (.pointer (some ⟨p, 0, none⟩))), fun w b a n now h _ => (rfwhen_any p b.1 a.l q.P 1000000 false now w h.at_.f).mono fun e w' ⟨h1, h2⟩ => ⟨b, h1, .of_gr _ h h2⟩⟩
  few {w b a n} h := ⟨(show a.l.length ≤ 1000 from by have := h.ok.l.few; have := h.ok.l.n; omega), h.ok.l.lens⟩
  fewPut h g := (delay_put_ok h.ok g).2
  fewTake h ht := (delTake_ok hq ht h.ok).2
  all := ⟨_, _, (fun args w => by kernel_rfl : Meth _ "All" 83 (.pointer (some ⟨p, 0, none⟩))), fun w b a n h => (rfall_any p b.1 a.l q.P 1000000 false w h.at_.f).mono fun e w' ⟨h1, h2⟩ => ⟨b.1, h1, by rw [← h2]; exact h.at_.f.l.row, by rw [← h2]; exact Gr.refl _⟩⟩

def DlyOk (t s P : Int) : Prop := (0 ≤ t ∧ t ≤ 1000000) ∧ (1 ≤ s ∧ s ≤ 1000000) ∧ (0 ≤ P ∧ P ≤ 1000000)
theorem dlynew_ok (t s P : Int) (w : World) (h : DlyOk t s P) :
    Calls Tryd.prog 20 #[.int .i64 t, .int .i64 s, .int .i64 P] w fun e w' => e = .returned (.tuple #[.pointer (some ⟨w.heap.size + 1, 0, none⟩), .nilIface]) ∧ w' = (w.alloc (.cells #[.slice none 0 0, .int .i64 0, .int .i64 P, .int .i64 1000000, .bool false] 35)).alloc (.cells #[.slice none 0 0, .int .i64 0, .int .i64 P, .int .i64 1000000, .bool false, .int .i64 t, .int .i64 s, .int .i64 (-1), .bool false, .int .i64 0, .int .i64 0] 71) := by
  obtain ⟨⟨h1, h2⟩, ⟨h3, h4⟩, h5⟩ := h
  have HR := Lib.hid (show RoomOk P 1000000 from ⟨h5, by decide⟩)
  clear h5
  go_enter Tryd.func20, Tryd.ntmps20
  go_wp2_with (go_at_call 10; refine (newfifo_ok P 1000000 false _ HR.out).mono ?_; rintro e w1 ⟨rfl, rfl⟩)
  all_goals first
    | (exfalso; omega)
    | exact bodyPost_ret (v := .tuple #[.pointer (some ⟨w.heap.size + 1, 0, none⟩), .nilIface]) (by simp [results, Tryd.results20, go_sem]) rfl ⟨rfl, rfl⟩
theorem dlynew_bad (t s P : Int) (w : World) (h : ¬ DlyOk t s P) :
    Calls Tryd.prog 20 #[.int .i64 t, .int .i64 s, .int .i64 P] w fun e w' => e = .returned (.tuple #[.pointer none, .iface 23 (.int .i64 2)]) ∧ Gr w w' := by
  by_cases hr : RoomOk P 1000000
  · have HR := Lib.hid hr
    have h2 : t < 0 ∨ (0 ≤ t ∧ 1000000 < t) ∨ (0 ≤ t ∧ t ≤ 1000000 ∧ s < 1) ∨ (0 ≤ t ∧ t ≤ 1000000 ∧ 1 ≤ s ∧ 1000000 < s) := by unfold DlyOk at h; unfold RoomOk at hr; omega
    clear h hr
    rcases h2 with h1 | ⟨h1, h2⟩ | ⟨h1, h2, h3⟩ | ⟨h1, h2, h3, h4⟩
    all_goals
      go_enter Tryd.func20, Tryd.ntmps20
      go_wp2_with (go_at_call 10; refine (newfifo_ok P 1000000 false _ HR.out).mono ?_; rintro e w1 ⟨rfl, rfl⟩)
      all_goals first
        | (exfalso; omega)
        | exact bodyPost_ret (v := .tuple #[.pointer none, .iface 23 (.int .i64 2)]) (by simp [results, Tryd.results20, go_sem]) rfl ⟨rfl, (Gr.refl _).alloc _⟩
  · have HR := Lib.hid hr
    clear h hr
    go_enter Tryd.func20, Tryd.ntmps20
    go_wp2_with (go_at_call 10; refine (newfifo_bad P 1000000 false _ HR.out).mono ?_; rintro e w1 ⟨rfl, rfl⟩)
    exact bodyPost_ret (v := .tuple #[.pointer none, .iface 23 (.int .i64 2)]) (by simp [results, Tryd.results20, go_sem]) rfl ⟨rfl, Gr.refl _⟩
theorem dlyck_ok (t s P : Int) (w : World) (h : DlyOk t s P) :
    Calls Tryd.prog 19 #[.int .i64 t, .int .i64 s, .int .i64 P] w fun e w' => e = .returned (.int .i64 0) ∧ w = w' := by
  obtain ⟨h1, h2, h5⟩ := h
  have HR := Lib.hid (show RoomOk P 0 from ⟨h5, by decide⟩)
  have H1 := Lib.hid h1
  have H2 := Lib.hid h2
  clear h1 h2 h5
  go_enter Tryd.func19, Tryd.ntmps19
  go_wp2_with (first
    | (go_at_call 9; refine (room_ok P 0 _ HR.out).mono ?_; rintro e w1 ⟨rfl, rfl⟩)
    | (go_at_call 29; (with_reducible refine (within_yes t 0 1000000 _ H1.out.1 H1.out.2).mono ?_); rintro e w1 ⟨rfl, rfl⟩)
    | (go_at_call 29; (with_reducible refine (within_yes s 1 1000000 _ H2.out.1 H2.out.2).mono ?_); rintro e w1 ⟨rfl, rfl⟩))
  go_ret
  exact ⟨rfl, rfl⟩
theorem dlyck_bad (t s P : Int) (w : World) (h : ¬ DlyOk t s P) :
    Calls Tryd.prog 19 #[.int .i64 t, .int .i64 s, .int .i64 P] w fun e w' => e = .returned (.int .i64 2) ∧ w = w' := by
  by_cases hr : RoomOk P 0
  · have HR := Lib.hid hr
    by_cases h1 : 0 ≤ t ∧ t ≤ 1000000
    · have H1 := Lib.hid h1
      have H2 := Lib.hid (show s < 1 ∨ 1000000 < s from by unfold DlyOk at h; unfold RoomOk at hr; omega)
      clear h hr h1
      go_enter Tryd.func19, Tryd.ntmps19
      go_wp2_with (first
        | (go_at_call 9; refine (room_ok P 0 _ HR.out).mono ?_; rintro e w1 ⟨rfl, rfl⟩)
        | (go_at_call 29; (with_reducible refine (within_yes t 0 1000000 _ H1.out.1 H1.out.2).mono ?_); rintro e w1 ⟨rfl, rfl⟩)
        | (go_at_call 29; (with_reducible refine (within_no s 1 1000000 _ H2.out).mono ?_); rintro e w1 ⟨rfl, rfl⟩))
      go_ret
      exact ⟨rfl, rfl⟩
    · have H1 := Lib.hid (show t < 0 ∨ 1000000 < t from by omega)
      clear h hr h1
      go_enter Tryd.func19, Tryd.ntmps19
      go_wp2_with (first
        | (go_at_call 9; refine (room_ok P 0 _ HR.out).mono ?_; rintro e w1 ⟨rfl, rfl⟩)
        | (go_at_call 29; (with_reducible refine (within_no t 0 1000000 _ H1.out).mono ?_); rintro e w1 ⟨rfl, rfl⟩))
      go_ret
      exact ⟨rfl, rfl⟩
  · have HR := Lib.hid hr
    clear h hr
    go_enter Tryd.func19, Tryd.ntmps19
    go_wp2_with (go_at_call 9; refine (room_bad P 0 _ HR.out).mono ?_; rintro e w1 ⟨rfl, rfl⟩)
    go_ret
    exact ⟨rfl, rfl⟩
theorem delay_play (W Wn : World) {q : DelP} (hq : q.Ok) {p pr : Nat} (ha : DelAt Wn p (.slice none 0 0) q [] (-1) false 0 0) (hr : RDelAt Wn pr (.slice none 0 0) (.slice none 0 0) q [] (-1) false 0 0) (hg : Gr W Wn)
    (h1 : W.heap.size ≤ p) (h2 : p < pr) {v : Value} {xs : List Stp} (hx : StpIn Wn v xs) (hl : xs.length ≤ 120) :
    Calls Tryd.prog 12 #[.iface 67 (.pointer (some ⟨p, 0, none⟩)), .iface 72 (.pointer (some ⟨pr, 0, none⟩)), v, .nilFunc] Wn fun e w' => e = .returned (.bool true) ∧ Gr W w' := by
  have ok0 : DelOk q ⟨[], -1, false, 0, 0⟩ 0 := ⟨.nil, (fun x hx => by cases hx), .inl rfl, ⟨Int.le_refl _, by decide⟩, ⟨Int.le_refl _, by simp⟩, (fun e => by cases e)⟩
  refine (played_any (N0 := W.heap.size) (S := delSide W.heap.size p q) (T := rdelSide W.heap.size pr q) (del_pside hq) (rdel_side hq) Wn (.slice none 0 0) (.slice none 0 0, .slice none 0 0) ⟨[], -1, false, 0, 0⟩ ⟨⟨ha, ok0, h1, fun g hg => by cases hg⟩, ⟨hr, ok0, Nat.le_of_lt (Nat.lt_of_le_of_lt h1 h2), (fun g hg => by cases hg), fun g hg => by cases hg⟩, ?_⟩ hg.size v xs hx hl .nilFunc (.inl rfl)).mono fun e w' ⟨h3, h4⟩ => ⟨h3, Sav.gr hg h4 fun q hq => hq⟩
  intro g hg hg'
  rcases hg with e | e
  · rcases hg' with (e' | e') | e'
    · omega
    · cases e'
    · cases e'
  · cases e
set_option maxRecDepth 100000 in
set_option maxHeartbeats 4000000 in
theorem earlyDelay_walk (W : World) (hg : Glob W) (t : Int) (_ : -9223372036854775808 ≤ t) (_ : t ≤ 9223372036854775807) (s : Int) (_ : -9223372036854775808 ≤ s) (_ : s ≤ 9223372036854775807) (P : Int) (_ : -9223372036854775808 ≤ P) (_ : P ≤ 9223372036854775807) {v : Value} {xs : List Stp} (hx : StpIn W v xs) :
    Calls Tryd.prog 6 #[.int .i64 t, .int .i64 s, .int .i64 P, v] W fun e W' => e = .returned (.bool true) ∧ Gr W W' := by
  have HX := Lib.hid hx
  have HGL := Lib.hid hg
  obtain ⟨sa, sc, rfl, _⟩ := hx
  clear hg
  by_cases hl : 120 < xs.length
  · go_enter Tryd.func6, Tryd.ntmps6
    go_wp2
    all_goals first
      | (exfalso; omega)
      | (go_ret; exact ⟨rfl, Gr.refl _⟩)
  · have HL := Lib.hid (show xs.length ≤ 120 by omega)
    by_cases hd : DlyOk t s P
    · have HD := Lib.hid hd
      have HQ : Hid (DelP.Ok ⟨t, s, P⟩) := Lib.hid ⟨hd.1, hd.2.1, hd.2.2⟩
      clear hd
      go_enter Tryd.func6, Tryd.ntmps6
      go_upto_region 5 with (first
        | (go_at_call 19; refine (dlyck_ok t s P _ HD.out).mono ?_; rintro e w1 ⟨rfl, rfl⟩)
        | (go_at_call 20; refine (dlynew_ok t s P _ HD.out).mono ?_; rintro e w1 ⟨rfl, rfl⟩))
      all_goals try (exfalso; omega)
      obtain ⟨w2, hw2⟩ : ∃ w2, w2 = (W.alloc (.cells #[.slice none 0 0, .int .i64 0, .int .i64 P, .int .i64 1000000, .bool false] 35)).alloc (.cells #[.slice none 0 0, .int .i64 0, .int .i64 P, .int .i64 1000000, .bool false, .int .i64 t, .int .i64 s, .int .i64 (-1), .bool false, .int .i64 0, .int .i64 0] 71) := ⟨_, rfl⟩
      obtain ⟨p, hp⟩ : ∃ p, p = W.heap.size + 1 := ⟨_, rfl⟩
      have HG2 : Hid (Gr W w2) := Lib.hid (by rw [hw2]; exact ((Gr.refl _).alloc _).alloc _)
      have HSZ : Hid (W.heap.size ≤ p ∧ p < w2.heap.size) := Lib.hid (by rw [hw2, hp]; simp)
      have hcell : ∀ (o : Nat) (u : Value), (#[Value.slice none 0 0, .int .i64 0, .int .i64 P, .int .i64 1000000, .bool false, .int .i64 t, .int .i64 s, .int .i64 (-1), .bool false, .int .i64 0, .int .i64 0] : Array Value)[o]? = some u → w2.cell? ⟨p, o, none⟩ = some u := fun o u h => by rw [hw2, alloc_cell _ p (by rw [hp]; simp)]; exact h
      have hfz : ∀ o, w2.frozen? ⟨p, o, none⟩ = false := fun o => by rw [hw2]; exact alloc_free _ p (by rw [hp]; simp)
      have HA2 : Hid (DelAt w2 p (.slice none 0 0) ⟨t, s, P⟩ [] (-1) false 0 0) := Lib.hid ⟨⟨⟨hcell 0 _ rfl, by simpa [sumLen] using hcell 1 _ rfl, hfz _, hfz _, RowH.nil _ _⟩, hcell 2 _ rfl, hcell 3 _ rfl, hcell 4 _ rfl⟩, hcell 5 _ rfl, hcell 6 _ rfl, hcell 7 _ rfl, hfz _, hcell 8 _ rfl, hfz _, hcell 9 _ rfl, hfz _, hcell 10 _ rfl, hfz _⟩
      rw [← hw2, ← hp]
      clear hw2 hp hcell hfz
      obtain ⟨c5, c6⟩ := And.intro HA2.out.s0 HA2.out.s1
      go_upto_region 9 with fail
      all_goals try (exfalso; omega)
      clear c5 c6
      go_wp2_with (go_at_call 12; refine (delay_play W (w2.alloc (.cells #[.int .i64 P, .int .i64 1000000, .bool false, .slice none 0 0, .int .i64 t, .int .i64 s, .slice none 0 0, .bool false, .int .i64 0, .int .i64 0] 74)) HQ.out (HA2.out.gr ((Gr.refl _).alloc _)) (show RDelAt _ w2.heap.size _ _ _ _ _ _ _ _ from ⟨⟨by simp, by simp, by simp, ⟨by simp, by simp, RowH.nil _ _⟩⟩, by simp, by simp, by simp, by simp, by simp, by simp, by simp, by simp, by simp, by simp, .inl ⟨rfl, rfl⟩, fun g hg => by cases hg⟩) (HG2.out.alloc _) HSZ.out.1 HSZ.out.2 (HX.out.gr (HG2.out.alloc _)) HL.out).mono ?_; rintro e w1 ⟨rfl, hg1⟩; have HG1 := Lib.hid hg1; clear hg1)
      go_ret
      exact ⟨rfl, HG1.out⟩
    · have HD := Lib.hid hd
      clear hd
      go_enter Tryd.func6, Tryd.ntmps6
      go_wp2_with (first
        | (go_at_call 19; refine (dlyck_bad t s P _ HD.out).mono ?_; rintro e w1 ⟨rfl, rfl⟩)
        | (go_at_call 20; refine (dlynew_bad t s P _ HD.out).mono ?_; rintro e w1 ⟨rfl, hg1⟩; have HG1 := Lib.hid hg1; clear hg1)
        | (go_at_call 11; refine (bare_true _ (HGL.out.gr HG1.out) (ErrIs.no _ _)).mono ?_; rintro e w4 ⟨rfl, hg4⟩; have HG4 := Lib.hid (HG1.out.trans hg4); clear hg4))
      all_goals first
        | (exfalso; omega)
        | (go_ret; exact ⟨rfl, HG4.out⟩)
end Go.Proofs.YtbpofdfehcbppaaDoor

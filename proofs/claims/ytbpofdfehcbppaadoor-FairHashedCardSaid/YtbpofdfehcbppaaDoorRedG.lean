/-
  early.New refuses; millraceref.RedCheck; both queues as sides of a play.
-/
import Derived.Test.YtbpofdfehcbppaaDoorRedF
import Derived.Test.YtbpofdfehcbppaaDoorFifoC
import Derived.Test.YtbpofdfehcbppaaDoorFifoS
import Derived.BigGuardPart
namespace Go.Proofs.YtbpofdfehcbppaaDoor
open Go.RowKit Go.Extern.Stop Go.Stop Go.Extern

set_option maxRecDepth 100000 in
set_option maxHeartbeats 4000000 in
theorem rednew_room (lo hi of sl P R : Int) (mk : Bool) (tv : Value) (w : World) (hr : ¬ RoomOk P R) :
    Calls Tryd.prog 15 #[.agg #[.int .i64 lo, .int .i64 hi, .int .i64 of, .int .i64 sl, .bool mk], .int .i64 P, .int .i64 R, tv] w fun e w' => e = .returned (.tuple #[.pointer none, .iface 23 (.int .i64 2)]) ∧ Gr w w' := by
  have HR := Lib.hid hr
  clear hr
  go_enter Tryd.func15, Tryd.ntmps15
  go_wp2_with (go_at_call 10; refine (newfifo_bad P R false _ HR.out).mono ?_; rintro e w1 ⟨rfl, rfl⟩)
  exact bodyPost_ret (v := .tuple #[.pointer none, .iface 23 (.int .i64 2)]) (by simp [results, Tryd.results15, go_sem]) rfl ⟨rfl, (Gr.refl _).alloc _⟩
set_option maxRecDepth 100000 in
set_option maxHeartbeats 4000000 in
theorem rednew_set (lo hi of sl P R : Int) (mk : Bool) (tv : Value) (w : World) (hr : RoomOk P R) (hs : ¬ SetOk lo hi of sl) :
    Calls Tryd.prog 15 #[.agg #[.int .i64 lo, .int .i64 hi, .int .i64 of, .int .i64 sl, .bool mk], .int .i64 P, .int .i64 R, tv] w fun e w' => e = .returned (.tuple #[.pointer none, .iface 23 (.int .i64 2)]) ∧ Gr w w' := by
  have HR := Lib.hid hr
  have h : lo < 0 ∨ (0 ≤ lo ∧ hi ≤ lo) ∨ (0 ≤ lo ∧ lo < hi ∧ 1000000 < hi) ∨ (0 ≤ lo ∧ lo < hi ∧ hi ≤ 1000000 ∧ of < 1) ∨ (0 ≤ lo ∧ lo < hi ∧ hi ≤ 1000000 ∧ 1 ≤ of ∧ 1000 < of) ∨ (0 ≤ lo ∧ lo < hi ∧ hi ≤ 1000000 ∧ 1 ≤ of ∧ of ≤ 1000 ∧ sl < 0) ∨ (0 ≤ lo ∧ lo < hi ∧ hi ≤ 1000000 ∧ 1 ≤ of ∧ of ≤ 1000 ∧ 0 ≤ sl ∧ 10 < sl) := by unfold SetOk at hs; omega
  clear hr hs
  rcases h with h1 | ⟨h1, h2⟩ | ⟨h1, h2, h3⟩ | ⟨h1, h2, h3, h4⟩ | ⟨h1, h2, h3, h4, h5⟩ | ⟨h1, h2, h3, h4, h5, h6⟩ | ⟨h1, h2, h3, h4, h5, h6, h7⟩
  all_goals
    go_enter Tryd.func15, Tryd.ntmps15
    go_wp2_with (go_at_call 10; refine (newfifo_ok P R false _ HR.out).mono ?_; rintro e w1 ⟨rfl, rfl⟩)
    all_goals first
      | (exfalso; omega)
      | exact bodyPost_ret (v := .tuple #[.pointer none, .iface 23 (.int .i64 2)]) (by simp [results, Tryd.results15, go_sem]) rfl ⟨rfl, ((Gr.refl _).alloc _).alloc _⟩
set_option maxRecDepth 100000 in
set_option maxHeartbeats 4000000 in
theorem rednew_long (lo hi of sl P R : Int) (mk : Bool) (ta : Option Addr) (n tc : Nat) (w : World) (hr : RoomOk P R) (hs : SetOk lo hi of sl) (hl : 1000 < n) :
    Calls Tryd.prog 15 #[.agg #[.int .i64 lo, .int .i64 hi, .int .i64 of, .int .i64 sl, .bool mk], .int .i64 P, .int .i64 R, .slice ta n tc] w fun e w' => e = .returned (.tuple #[.pointer none, .iface 23 (.int .i64 4)]) ∧ Gr w w' := by
  have HR := Lib.hid hr
  obtain ⟨h1, h2, h3, ⟨h4, h5⟩, h6, h7⟩ := hs
  have h8 : (1000 : Int) < (n : Int) := by omega
  clear hr hl
  go_enter Tryd.func15, Tryd.ntmps15
  go_wp2_with (go_at_call 10; refine (newfifo_ok P R false _ HR.out).mono ?_; rintro e w1 ⟨rfl, rfl⟩)
  all_goals first
    | (exfalso; omega)
    | exact bodyPost_ret (v := .tuple #[.pointer none, .iface 23 (.int .i64 4)]) (by simp [results, Tryd.results15, go_sem]) rfl ⟨rfl, ((Gr.refl _).alloc _).alloc _⟩
theorem redck_room (lo hi of sl P R : Int) (mk : Bool) (tv : Value) (w : World) (hr : ¬ RoomOk P R) :
    Calls Tryd.prog 14 #[.agg #[.int .i64 lo, .int .i64 hi, .int .i64 of, .int .i64 sl, .bool mk], .int .i64 P, .int .i64 R, tv] w fun e w' => e = .returned (.int .i64 2) ∧ Gr w w' := by
  have HR := Lib.hid hr
  clear hr
  go_enter Tryd.func14, Tryd.ntmps14
  go_wp2_with (go_at_call 9; refine (room_bad P R _ HR.out).mono ?_; rintro e w1 ⟨rfl, rfl⟩)
  go_ret
  exact ⟨rfl, (Gr.refl _).alloc _⟩
set_option maxRecDepth 100000 in
set_option maxHeartbeats 4000000 in
theorem redck_set (lo hi of sl P R : Int) (mk : Bool) (tv : Value) (w : World) (hr : RoomOk P R) (hs : ¬ SetOk lo hi of sl) :
    Calls Tryd.prog 14 #[.agg #[.int .i64 lo, .int .i64 hi, .int .i64 of, .int .i64 sl, .bool mk], .int .i64 P, .int .i64 R, tv] w fun e w' => e = .returned (.int .i64 2) ∧ Gr w w' := by
  have HR := Lib.hid hr
  have h : lo < 0 ∨ (0 ≤ lo ∧ hi ≤ lo) ∨ (0 ≤ lo ∧ lo < hi ∧ 1000000 < hi) ∨ (0 ≤ lo ∧ lo < hi ∧ hi ≤ 1000000 ∧ (of < 1 ∨ 1000 < of)) ∨ (0 ≤ lo ∧ lo < hi ∧ hi ≤ 1000000 ∧ (1 ≤ of ∧ of ≤ 1000) ∧ (sl < 0 ∨ 10 < sl)) := by unfold SetOk at hs; omega
  clear hr hs
  rcases h with h1 | ⟨h1, h2⟩ | ⟨h1, h2, h3⟩ | ⟨h1, h2, h3, h4⟩ | ⟨h1, h2, h3, h4, h5⟩
  iterate 3
    · go_enter Tryd.func14, Tryd.ntmps14
      go_wp2_with (go_at_call 9; refine (room_ok P R _ HR.out).mono ?_; rintro e w1 ⟨rfl, rfl⟩)
      all_goals first
        | (exfalso; omega)
        | (go_ret; exact ⟨rfl, (Gr.refl _).alloc _⟩)
  · have H4 := Lib.hid h4
    clear h4
    go_enter Tryd.func14, Tryd.ntmps14
    go_wp2_with (first
      | (go_at_call 9; refine (room_ok P R _ HR.out).mono ?_; rintro e w1 ⟨rfl, rfl⟩)
      | (go_at_call 29; (with_reducible refine (within_no of 1 1000 _ H4.out).mono ?_); rintro e w1 ⟨rfl, rfl⟩))
    all_goals first
      | (exfalso; omega)
      | (go_ret; exact ⟨rfl, (Gr.refl _).alloc _⟩)
  · have H4 := Lib.hid h4
    have H5 := Lib.hid h5
    clear h4 h5
    go_enter Tryd.func14, Tryd.ntmps14
    go_wp2_with (first
      | (go_at_call 9; refine (room_ok P R _ HR.out).mono ?_; rintro e w1 ⟨rfl, rfl⟩)
      | (go_at_call 29; (with_reducible refine (within_yes of 1 1000 _ H4.out.1 H4.out.2).mono ?_); rintro e w1 ⟨rfl, rfl⟩)
      | (go_at_call 29; (with_reducible refine (within_no sl 0 10 _ H5.out).mono ?_); rintro e w1 ⟨rfl, rfl⟩))
    all_goals first
      | (exfalso; omega)
      | (go_ret; exact ⟨rfl, (Gr.refl _).alloc _⟩)
set_option maxRecDepth 100000 in
set_option maxHeartbeats 4000000 in
theorem redck_len (lo hi of sl P R : Int) (mk : Bool) (ta : Option Addr) (n tc : Nat) (w : World) (hr : RoomOk P R) (hs : SetOk lo hi of sl) :
    Calls Tryd.prog 14 #[.agg #[.int .i64 lo, .int .i64 hi, .int .i64 of, .int .i64 sl, .bool mk], .int .i64 P, .int .i64 R, .slice ta n tc] w fun e w' => e = .returned (.int .i64 (if 1000 < n then 4 else 0)) ∧ Gr w w' := by
  have HR := Lib.hid hr
  obtain ⟨h1, h2, h3, h4, h5⟩ := hs
  have H4 := Lib.hid h4
  have H5 := Lib.hid h5
  clear h4 h5 hr
  by_cases hl : 1000 < n
  · rw [if_pos hl]
    have h8 : (1000 : Int) < (n : Int) := by omega
    clear hl
    go_enter Tryd.func14, Tryd.ntmps14
    go_wp2_with (first
      | (go_at_call 9; refine (room_ok P R _ HR.out).mono ?_; rintro e w1 ⟨rfl, rfl⟩)
      | (go_at_call 29; (with_reducible refine (within_yes of 1 1000 _ H4.out.1 H4.out.2).mono ?_); rintro e w1 ⟨rfl, rfl⟩)
      | (go_at_call 29; (with_reducible refine (within_yes sl 0 10 _ H5.out.1 H5.out.2).mono ?_); rintro e w1 ⟨rfl, rfl⟩))
    all_goals first
      | (exfalso; omega)
      | (go_ret; exact ⟨rfl, (Gr.refl _).alloc _⟩)
  · rw [if_neg hl]
    have h8 : ¬ (1000 : Int) < (n : Int) := by omega
    clear hl
    go_enter Tryd.func14, Tryd.ntmps14
    go_wp2_with (first
      | (go_at_call 9; refine (room_ok P R _ HR.out).mono ?_; rintro e w1 ⟨rfl, rfl⟩)
      | (go_at_call 29; (with_reducible refine (within_yes of 1 1000 _ H4.out.1 H4.out.2).mono ?_); rintro e w1 ⟨rfl, rfl⟩)
      | (go_at_call 29; (with_reducible refine (within_yes sl 0 10 _ H5.out.1 H5.out.2).mono ?_); rintro e w1 ⟨rfl, rfl⟩))
    all_goals first
      | (exfalso; omega)
      | (go_ret; exact ⟨rfl, (Gr.refl _).alloc _⟩)
/-- The program's, as a side of a play. -/
structure RedI (N0 p : Nat) (q : RedP) (w : World) (b : Value × Value) (a : RedS) (n : Nat) : Prop where
  at_ : RedAt w p b.1 b.2 q a.l a.m a.c a.used
  ok : RedOk q a n
  lo : N0 ≤ p ∧ (∀ g, b.1.ownBlock = some g → N0 ≤ g) ∧ ∀ g, b.2.ownBlock = some g → N0 ≤ g
def redSide (N0 p : Nat) (q : RedP) : Side (red q) N0 (Value × Value) where
  I := RedI N0 p q
  F b g := LFoot p b.1 g ∨ b.2.ownBlock = some g
  lo h hg := hg.elim (fun e => e.elim (fun e => by rw [e]; exact h.lo.1) (h.lo.2.1 _)) (h.lo.2.2 _)
  lt h hg := hg.elim (fun e => e.elim (fun e => by rw [e]; exact h.at_.lt) (fun e => h.at_.f.l.row.lt e)) (fun e => (h.at_.ap _ e).2.2)
  sav h k hB := ⟨h.at_.sav k (fun e => (hB _ e).2 (.inl (.inl rfl))) (fun g hg e => (hB _ e).2 (.inl (.inr hg))) (fun g hg e => (hB _ e).2 (.inr hg)), h.ok, h.lo⟩
theorem red_moved {N0 p : Nat} {q : RedP} {w w' : World} {b b' : Value × Value} {a a' : RedS} {n n' : Nat} (h : RedI N0 p q w b a n) (d : RedAt w' p b'.1 b'.2 q a'.l a'.m a'.c a'.used) (s : Sav (LFoot p b.1) w w')
    (o1 : ∀ g, b'.1.ownBlock = some g → b.1.ownBlock = some g ∨ w.heap.size ≤ g) (o2 : ∀ g, b'.2.ownBlock = some g → b.2.ownBlock = some g) (ok : RedOk q a' n') : (redSide N0 p q).Moved w b w' b' a' n' :=
  ⟨⟨d, ok, h.lo.1, fun g hg => (o1 g hg).elim (h.lo.2.1 g) (fun h1 => Nat.le_trans h.lo.1 (Nat.le_trans (Nat.le_of_lt h.at_.lt) h1)), fun g hg => h.lo.2.2 g (o2 g hg)⟩, s.mono fun _ => .inl,
    fun g hg => hg.elim (fun e => e.elim (fun e => .inl (.inl (.inl e))) (fun e => (o1 g e).imp (fun e => .inl (.inr e)) id)) (fun e => .inl (.inr (o2 g e)))⟩
theorem red_pside {N0 p : Nat} {q : RedP} (hq : q.Ok) : PSide (redSide N0 p q) (.iface 57 (.pointer (some ⟨p, 0, none⟩))) where
  put := ⟨_, _, (fun args w => by kernel_rfl : Meth _ "Put" 96 (.pointer (some ⟨p, 0, none⟩))), fun w b a n now x h g => (redput_any p b.1 b.2 q hq a n now x w h.at_ h.ok g).mono fun e w' ⟨r, v', tv', h1, h2, h3, h4, h5, h6⟩ => ⟨r, (v', tv'), h1, h2, red_moved h h3 h4 h5 h6 (red_put_ok h.ok g).1⟩⟩
  take := ⟨_, _, (fun args w => by kernel_rfl : Meth _ "Take" 77 (.pointer (some ⟨p, 0, none⟩))), fun w b a n now h _ => (ftake_any p b.1 a.l q.P q.R false now w h.at_.f (by have := h.ok.l.few; have := h.ok.l.n; omega) h.ok.l.lens).mono fun e w' ⟨v', h1, h2⟩ => ⟨_, (v', b.2), h1, by rw [(red_take_ok h.ok).2]; exact RowH.nil _ _, red_moved h (h.at_.fifo h2) h2.sav.sav h2.own (fun _ => id) (red_take_ok h.ok).1⟩⟩
  when_ := ⟨_, _, (fun args w => by kernel_rfl : Meth _ "When" 78 (.pointer (some ⟨p, 0, none⟩))), fun w b a n now h _ => (fwhen_any p b.1 a.l q.P q.R false now w h.at_.f (by have := h.ok.l.few; have := h.ok.l.n; omega)).mono fun e w' ⟨h1, h2⟩ => ⟨b, h1, .of_gr _ h h2⟩⟩
  few {w b a n} h := ⟨(show a.l.length ≤ 1000 from by have := h.ok.l.few; have := h.ok.l.n; omega), h.ok.l.lens⟩
  fewPut h g := (red_put_ok h.ok g).2
  fewTake h _ := by rw [(red_take_ok h.ok).2]; exact Nat.zero_le _
  len := ⟨_, _, (fun args w => by kernel_rfl : Meth _ "Len" 75 (.pointer (some ⟨p, 0, none⟩))), fun w b a n h => llen_g p 0 b.1 a.l w h.at_.f.l⟩
  bytes := ⟨_, _, (fun args w => by kernel_rfl : Meth _ "Bytes" 74 (.pointer (some ⟨p, 0, none⟩))), fun w b a n h => lbytes_g p 0 b.1 a.l w h.at_.f.l⟩
/-- The reference's; its tape is the caller's. -/
structure RRedI (N0 p : Nat) (q : RedP) (tv : Value) (w : World) (b : Value) (a : RedS) (n : Nat) : Prop where
  at_ : RRedAt w p b tv q a.l a.m a.c a.used
  ok : RedOk q a n
  lo : N0 ≤ p ∧ ∀ g, b.ownBlock = some g → N0 ≤ g
  tape : ∀ g, q.tape ≠ [] → tv.ownBlock = some g → g < N0
def rredSide (N0 p : Nat) (q : RedP) (tv : Value) : Side (red q) N0 Value where
  I := RRedI N0 p q tv
  F := LFoot p
  lo h hg := hg.elim (fun e => by rw [e]; exact h.lo.1) (h.lo.2 _)
  lt h hg := hg.elim (fun e => by rw [e]; exact h.at_.lt) (fun e => h.at_.f.l.row.lt e)
  sav h k hB := ⟨h.at_.sav k (fun e => (hB _ e).2 (.inl rfl)) (fun g hg e => (hB _ e).2 (.inr hg)) (fun g h0 hg e => absurd (h.tape g h0 hg) (Nat.not_lt.2 (hB _ e).1)), h.ok, h.lo, h.tape⟩
theorem rred_moved {N0 p : Nat} {q : RedP} {tv : Value} {w w' : World} {b b' : Value} {a a' : RedS} {n n' : Nat} (h : RRedI N0 p q tv w b a n) (d : RRedAt w' p b' tv q a'.l a'.m a'.c a'.used) (s : Sav (LFoot p b) w w')
    (o1 : ∀ g, b'.ownBlock = some g → b.ownBlock = some g ∨ w.heap.size ≤ g) (ok : RedOk q a' n') : (rredSide N0 p q tv).Moved w b w' b' a' n' :=
  ⟨⟨d, ok, ⟨h.lo.1, fun g hg => (o1 g hg).elim (h.lo.2 g) (fun h1 => Nat.le_trans h.lo.1 (Nat.le_trans (Nat.le_of_lt h.at_.lt) h1))⟩, h.tape⟩, s, fun g hg => hg.elim (fun e => .inl (.inl e)) (fun e => (o1 g e).imp .inr id)⟩
theorem rred_side {N0 p : Nat} {q : RedP} {tv : Value} (hq : q.Ok) : RSide (rredSide N0 p q tv) (.iface 60 (.pointer (some ⟨p, 0, none⟩))) where
  put := ⟨_, _, (fun args w => by kernel_rfl : Meth _ "Put" 98 (.pointer (some ⟨p, 0, none⟩))), fun w b a n now x h g => (rredput_any p b tv q hq a n now x w h.at_ h.ok g).mono fun e w' ⟨r, v', h1, h2, h3, h4, h5⟩ => ⟨r, v', h1, h2, rred_moved h h3 h4 h5 (red_put_ok h.ok g).1⟩⟩
  take := ⟨_, _, (fun args w => by kernel_rfl : Meth _ "Take" 85 (.pointer (some ⟨p, 0, none⟩))), fun w b a n now h _ => (rftake_any p b a.l q.P q.R false now w h.at_.f (by have := h.ok.l.few; have := h.ok.l.n; omega)).mono fun e w' ⟨v', h1, h2⟩ => ⟨_, v', h1, by rw [(red_take_ok h.ok).2]; exact RowH.nil _ _, rred_moved h (h.at_.fifo h2) h2.sav.sav h2.own (red_take_ok h.ok).1⟩⟩
  when_ := ⟨_, _, (fun args w => by kernel_rfl : Meth _ "When" 86 (.pointer (some ⟨p, 0, none⟩))), fun w b a n now h _ => (rfwhen_any p b a.l q.P q.R false now w h.at_.f).mono fun e w' ⟨h1, h2⟩ => ⟨b, h1, .of_gr _ h h2⟩⟩
  few {w b a n} h := ⟨(show a.l.length ≤ 1000 from by have := h.ok.l.few; have := h.ok.l.n; omega), h.ok.l.lens⟩
  fewPut h g := (red_put_ok h.ok g).2
  fewTake h _ := by rw [(red_take_ok h.ok).2]; exact Nat.zero_le _
  all := ⟨_, _, (fun args w => by kernel_rfl : Meth _ "All" 83 (.pointer (some ⟨p, 0, none⟩))), fun w b a n h => (rfall_any p b a.l q.P q.R false w h.at_.f).mono fun e w' ⟨h1, h2⟩ => ⟨b, h1, by rw [← h2]; exact h.at_.f.l.row, by rw [← h2]; exact Gr.refl _⟩⟩
end Go.Proofs.YtbpofdfehcbppaaDoor

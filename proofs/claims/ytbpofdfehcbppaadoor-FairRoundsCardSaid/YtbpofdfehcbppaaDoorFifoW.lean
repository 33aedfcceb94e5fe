/-
  millracelaw.QueueFifo, walked.
-/
import Derived.Test.YtbpofdfehcbppaaDoorPlayD
import Derived.Test.YtbpofdfehcbppaaDoorFifoC
import Derived.Test.YtbpofdfehcbppaaDoorFifoS
import Derived.Test.YtbpofdfehcbppaaDoorWithin
namespace Go.Proofs.YtbpofdfehcbppaaDoor
open Go.RowKit Go.Extern.Stop Go.Stop Go.Extern

/-- A room that may be. -/
def RoomOk (a b : Int) : Prop := (0 ≤ a ∧ a ≤ 1000000) ∧ (0 ≤ b ∧ b ≤ 1000000)
theorem room_ok (a b : Int) (w : World) (h : RoomOk a b) : Calls Tryd.prog 9 #[.int .i64 a, .int .i64 b] w fun e w' => e = .returned (.int .i64 0) ∧ w = w' := by
  obtain ⟨⟨a1, a2⟩, b1, b2⟩ := h
  have HA := Lib.hid (fun w => within_yes a 0 1000000 w a1 a2)
  have HB := Lib.hid (fun w => within_yes b 0 1000000 w b1 b2)
  clear a1 a2 b1 b2
  go_enter Tryd.func9, Tryd.ntmps9
  go_wp2_with (first
    | (go_at_call 29; (with_reducible refine (HA.out _).mono ?_); rintro e w1 ⟨rfl, rfl⟩)
    | (go_at_call 29; (with_reducible refine (HB.out _).mono ?_); rintro e w1 ⟨rfl, rfl⟩))
  go_ret
  exact ⟨rfl, rfl⟩
theorem room_bad (a b : Int) (w : World) (h : ¬ RoomOk a b) : Calls Tryd.prog 9 #[.int .i64 a, .int .i64 b] w fun e w' => e = .returned (.int .i64 2) ∧ w = w' := by
  by_cases h1 : 0 ≤ a ∧ a ≤ 1000000
  · have H := Lib.hid h1
    have H2 := Lib.hid (show b < 0 ∨ 1000000 < b from by unfold RoomOk at h; omega)
    clear h h1
    go_enter Tryd.func9, Tryd.ntmps9
    go_wp2_with (first
      | (go_at_call 29; (with_reducible refine (within_yes a 0 1000000 _ H.out.1 H.out.2).mono ?_); rintro e w1 ⟨rfl, rfl⟩)
      | (go_at_call 29; (with_reducible refine (within_no b 0 1000000 _ H2.out).mono ?_); rintro e w1 ⟨rfl, rfl⟩))
    go_ret
    exact ⟨rfl, rfl⟩
  · have H := Lib.hid (show a < 0 ∨ 1000000 < a from by omega)
    clear h h1
    go_enter Tryd.func9, Tryd.ntmps9
    go_wp2_with (go_at_call 29; (with_reducible refine (within_no a 0 1000000 _ H.out).mono ?_); rintro e w1 ⟨rfl, rfl⟩)
    go_ret
    exact ⟨rfl, rfl⟩
theorem newfifo_ok (a b : Int) (head : Bool) (w : World) (h : RoomOk a b) : Calls Tryd.prog 10 #[.int .i64 a, .int .i64 b, .bool head] w fun e w' => e = .returned (.tuple #[.pointer (some ⟨w.heap.size, 0, none⟩), .nilIface]) ∧ w' = w.alloc (.cells #[.slice none 0 0, .int .i64 0, .int .i64 a, .int .i64 b, .bool head] 35) := by
  obtain ⟨⟨a1, a2⟩, b1, b2⟩ := h
  go_enter Tryd.func10, Tryd.ntmps10
  go_wp2
  exact bodyPost_ret (v := .tuple #[.pointer (some ⟨w.heap.size, 0, none⟩), .nilIface]) (by simp [results, Tryd.results10, go_sem]) rfl ⟨rfl, rfl⟩
theorem newfifo_bad (a b : Int) (head : Bool) (w : World) (h : ¬ RoomOk a b) : Calls Tryd.prog 10 #[.int .i64 a, .int .i64 b, .bool head] w fun e w' => e = .returned (.tuple #[.pointer none, .iface 23 (.int .i64 2)]) ∧ w = w' := by
  have h2 : a < 0 ∨ 1000000 < a ∨ b < 0 ∨ 1000000 < b := by unfold RoomOk at h; omega
  have H := Lib.hid h2
  clear h h2
  go_enter Tryd.func10, Tryd.ntmps10
  go_wp2
  all_goals
    first
    | exact bodyPost_ret (v := .tuple #[.pointer none, .iface 23 (.int .i64 2)]) (by simp [results, Tryd.results10, go_sem]) rfl ⟨rfl, rfl⟩
    | (exfalso; have := H.out; omega)
theorem fifo_born {w : World} {a b : Int} {head : Bool} {p : Nat} (hp : p = w.heap.size) : FifoAt (w.alloc (.cells #[.slice none 0 0, .int .i64 0, .int .i64 a, .int .i64 b, .bool head] 35)) p (.slice none 0 0) [] a b head := by
  subst hp
  exact ⟨⟨by simp, by simp [sumLen], by simp, by simp, RowH.nil _ _⟩, by simp, by simp, by simp⟩
theorem rfifo_born {w : World} {a b : Int} {head : Bool} {p : Nat} (hp : p = w.heap.size) : RFifoAt (w.alloc (.cells #[.int .i64 a, .int .i64 b, .bool head, .slice none 0 0] 40)) p (.slice none 0 0) [] a b head := by
  subst hp
  exact ⟨by simp, by simp, by simp, by simp, by simp, RowH.nil _ _⟩
theorem FifoOk.nil : FifoOk [] 0 := ⟨Nat.le_refl _, (fun _ h => by cases h), by omega⟩
theorem fifo_play (W : World) (a b : Int) (head : Bool) (hR : RoomOk a b) {v : Value} {xs : List Stp} (hx : StpIn W v xs) (hl : xs.length ≤ 120) :
    Calls Tryd.prog 12 #[.iface 25 (.pointer (some ⟨W.heap.size, 0, none⟩)), .iface 37 (.pointer (some ⟨W.heap.size + 1, 0, none⟩)), v, .nilFunc] ((W.alloc (.cells #[.slice none 0 0, .int .i64 0, .int .i64 a, .int .i64 b, .bool head] 35)).alloc (.cells #[.int .i64 a, .int .i64 b, .bool head, .slice none 0 0] 40)) fun e w' => e = .returned (.bool true) ∧ Gr W w' := by
  have h1 := fifo_born (w := W) (a := a) (b := b) (head := head) rfl
  have hg := (Gr.refl W).alloc (.cells #[.slice none 0 0, .int .i64 0, .int .i64 a, .int .i64 b, .bool head] 35)
  generalize hW1 : W.alloc (.cells #[.slice none 0 0, .int .i64 0, .int .i64 a, .int .i64 b, .bool head] 35) = W1 at *
  have hsz : W1.heap.size = W.heap.size + 1 := by rw [← hW1]; simp
  have h2 := rfifo_born (w := W1) (a := a) (b := b) (head := head) (p := W.heap.size + 1) hsz.symm
  have hg2 := (Gr.refl W1).alloc (.cells #[.int .i64 a, .int .i64 b, .bool head, .slice none 0 0] 40)
  generalize W1.alloc (.cells #[.int .i64 a, .int .i64 b, .bool head, .slice none 0 0] 40) = W2 at *
  have hgg := hg.trans hg2
  refine (played_any (N0 := W.heap.size) (S := fifoSide W.heap.size W.heap.size a b head) (T := rfifoSide W.heap.size (W.heap.size + 1) a b head) (fifo_pside hR.1 hR.2) (rfifo_side hR.1 hR.2) W2 (.slice none 0 0) (.slice none 0 0) [] ⟨⟨h1.gr hg2, .nil, Nat.le_refl _, fun g hg => by cases hg⟩, ⟨h2, .nil, Nat.le_succ _, fun g hg => by cases hg⟩, fun g hg hg' => ?_⟩ hgg.size v xs (hx.gr hgg) hl .nilFunc (.inl rfl)).mono fun e w' ⟨h3, h4⟩ => ⟨h3, Sav.gr hgg h4 fun q hq => hq⟩
  rcases hg with e | e
  · rcases hg' with e' | e'
    · omega
    · cases e'
  · cases e
set_option maxRecDepth 100000 in
set_option maxHeartbeats 4000000 in
theorem queueFifo_walk (W : World) (hg : Glob W) (a : Int) (_ : -9223372036854775808 ≤ a) (_ : a ≤ 9223372036854775807) (b : Int) (_ : -9223372036854775808 ≤ b) (_ : b ≤ 9223372036854775807) (head : Bool) {v : Value} {xs : List Stp} (hx : StpIn W v xs) :
    Calls Tryd.prog 3 #[.int .i64 a, .int .i64 b, .bool head, v] W fun e W' => e = .returned (.bool true) ∧ Gr W W' := by
  have HX := Lib.hid hx
  have HGL := Lib.hid hg
  obtain ⟨sa, sc, rfl, _⟩ := hx
  clear hg
  by_cases hl : 120 < xs.length
  · go_enter Tryd.func3, Tryd.ntmps3
    go_wp2
    go_ret
    exact ⟨rfl, Gr.refl _⟩
  · have hl2 : xs.length ≤ 120 := by omega
    have HL := Lib.hid hl2
    by_cases hr : RoomOk a b
    · have HR := Lib.hid hr
      clear hr
      go_enter Tryd.func3, Tryd.ntmps3
      go_wp2_with (first
        | (go_at_call 9; refine (room_ok a b _ HR.out).mono ?_; rintro e w1 ⟨rfl, rfl⟩)
        | (go_at_call 10; refine (newfifo_ok a b head _ HR.out).mono ?_; rintro e w1 ⟨rfl, rfl⟩)
        | (go_at_call 12; refine (fifo_play W a b head HR.out HX.out HL.out).mono ?_; rintro e w1 ⟨rfl, hg1⟩; have HG1 := Lib.hid hg1; clear hg1))
      go_ret
      exact ⟨rfl, HG1.out⟩
    · have HR := Lib.hid hr
      clear hr
      go_enter Tryd.func3, Tryd.ntmps3
      go_wp2_with (first
        | (go_at_call 9; refine (room_bad a b _ HR.out).mono ?_; rintro e w1 ⟨rfl, rfl⟩)
        | (go_at_call 10; refine (newfifo_bad a b head _ HR.out).mono ?_; rintro e w1 ⟨rfl, rfl⟩)
        | (go_at_call 11; refine (bare_true _ HGL.out (ErrIs.no _ _)).mono ?_; rintro e w4 ⟨rfl, hg4⟩; have HG4 := Lib.hid hg4; clear hg4))
      go_ret
      exact ⟨rfl, HG4.out⟩
end Go.Proofs.YtbpofdfehcbppaaDoor

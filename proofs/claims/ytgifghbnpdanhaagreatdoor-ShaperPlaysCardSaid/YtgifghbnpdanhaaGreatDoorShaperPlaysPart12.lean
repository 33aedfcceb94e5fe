/-
  A queue that lets no more go than a bucket has, the program's and the reference's, as sides of a play; how they are made.
-/
import Derived.Test.YtgifghbnpdanhaaGreatDoorShpD
import Derived.Test.YtgifghbnpdanhaaGreatDoorShpE
import Derived.Test.YtgifghbnpdanhaaGreatDoorShaperPlaysPart10
import Derived.Test.YtgifghbnpdanhaaGreatDoorFifoC
import Derived.Test.YtgifghbnpdanhaaGreatDoorFifoS
import Derived.Test.YtgifghbnpdanhaaGreatDoorPlayD
import Derived.Test.YtgifghbnpdanhaaGreatDoorShaperPlaysPart5
namespace Go.Proofs.YtgifghbnpdanhaaGreatDoor
open Go.RowKit Go.Extern.Stop Go.Stop Go.Extern

section
variable {α : Type} {U : Mach α} {N0 : Nat} {S : Side U N0 (Nat → Prop)} {q : Value} {B : Bkt} {mu : α → Nat} {p tp : Nat} {hq : ∃ t v, q = .iface t v} {hF : ∀ b g, S.F b g ↔ b g}
theorem shp_acts (A : Acts S 134 q) (hU : More S mu) : Acts (shSide stP nkP 134 S q B mu p tp hq hF) 134 (.iface 37 (.pointer (some ⟨p, 0, none⟩))) where
  put := ⟨_, _, (fun args w => by kernel_rfl : Meth _ "Put" 93 (.pointer (some ⟨p, 0, none⟩))), fun w G s n now x h g => by
    obtain ⟨lv, nv, F, h1, h2⟩ := h
    exact (spput_any hq hF A hU w lv nv F s n now x g h1).mono fun e w' ⟨v, k1, k2, lv', nv', F', k3⟩ => ⟨v, _, k1, k2, shSide_moved h2 k3⟩⟩
  take := ⟨_, _, (fun args w => by kernel_rfl : Meth _ "Take" 94 (.pointer (some ⟨p, 0, none⟩))), fun w G s n now h g => by
    obtain ⟨lv, nv, F, h1, h2⟩ := h
    exact (sptake_any hq hF A hU w lv nv F s n now g h1).mono fun e w' ⟨v, k1, k2, lv', nv', F', k3⟩ => ⟨v, _, k1, k2, shSide_moved h2 k3⟩⟩
  when_ := ⟨_, _, (fun args w => by kernel_rfl : Meth _ "When" 95 (.pointer (some ⟨p, 0, none⟩))), fun w G s n now h g => by
    obtain ⟨lv, nv, F, h1, h2⟩ := h
    exact (spwhen_any hq hF A hU w lv nv F s n now g h1).mono fun e w' ⟨k1, lv', nv', F', k3⟩ => ⟨_, k1, shSide_moved h2 k3⟩⟩
  few h := shSide_few A hU h
  fewPut h g := shSide_fewPut A hU h g
  fewTake h hn := shSide_fewTake A hU h hn
theorem shp_p (A : PSide S q) (hU : More S mu) : PSide (shSide stP nkP 134 S q B mu p tp hq hF) (.iface 37 (.pointer (some ⟨p, 0, none⟩))) where
  toActs := shp_acts A.toActs hU
  len := ⟨_, _, (fun args w => by kernel_rfl : Meth _ "Len" 92 (.pointer (some ⟨p, 0, none⟩))), fun w G s n h => by
    obtain ⟨lv, nv, F, h1, h2⟩ := h
    exact splen_any hq A w lv nv F s n h1⟩
  bytes := ⟨_, _, (fun args w => by kernel_rfl : Meth _ "Bytes" 91 (.pointer (some ⟨p, 0, none⟩))), fun w G s n h => by
    obtain ⟨lv, nv, F, h1, h2⟩ := h
    exact spbytes_any hq A w lv nv F s n h1⟩
theorem shr_acts (A : Acts S 95 q) (hU : More S mu) : Acts (shSide stR nkR 95 S q B mu p tp hq hF) 95 (.iface 42 (.pointer (some ⟨p, 0, none⟩))) where
  put := ⟨_, _, (fun args w => by kernel_rfl : Meth _ "Put" 101 (.pointer (some ⟨p, 0, none⟩))), fun w G s n now x h g => by
    obtain ⟨lv, nv, F, h1, h2⟩ := h
    exact (srput_any hq hF A hU w lv nv F s n now x g h1).mono fun e w' ⟨v, k1, k2, lv', nv', F', k3⟩ => ⟨v, _, k1, k2, shSide_moved h2 k3⟩⟩
  take := ⟨_, _, (fun args w => by kernel_rfl : Meth _ "Take" 102 (.pointer (some ⟨p, 0, none⟩))), fun w G s n now h g => by
    obtain ⟨lv, nv, F, h1, h2⟩ := h
    exact (srtake_any hq hF A hU w lv nv F s n now g h1).mono fun e w' ⟨v, k1, k2, lv', nv', F', k3⟩ => ⟨v, _, k1, k2, shSide_moved h2 k3⟩⟩
  when_ := ⟨_, _, (fun args w => by kernel_rfl : Meth _ "When" 103 (.pointer (some ⟨p, 0, none⟩))), fun w G s n now h g => by
    obtain ⟨lv, nv, F, h1, h2⟩ := h
    exact (srwhen_any hq hF A hU w lv nv F s n now g h1).mono fun e w' ⟨k1, lv', nv', F', k3⟩ => ⟨_, k1, shSide_moved h2 k3⟩⟩
  few h := shSide_few A hU h
  fewPut h g := shSide_fewPut A hU h g
  fewTake h hn := shSide_fewTake A hU h hn
theorem shr_r (A : RSide S q) (hU : More S mu) : RSide (shSide stR nkR 95 S q B mu p tp hq hF) (.iface 42 (.pointer (some ⟨p, 0, none⟩))) where
  toActs := shr_acts A.toActs hU
  all := ⟨_, _, (fun args w => by kernel_rfl : Meth _ "All" 100 (.pointer (some ⟨p, 0, none⟩))), fun w G s n h => by
    obtain ⟨lv, nv, F, h1, h2⟩ := h
    exact srall_any hq A w lv nv F s n h1⟩
/-- A new one. -/
theorem shp_born {K : BKind} {N : NKind} {E : TypeId} {T : TypeId} {w : World} {F : Nat → Prop} {a : α} {n : Nat} {nv : Value} (hF : ∀ b g, S.F b g ↔ b g) (hN : N0 ≤ w.heap.size) (hI : S.I w F a n) (hs : K.at_ w tp B B.full) (t0 : w.cell? ⟨tp, 0, none⟩ = some (.int .i64 (B.b : Int))) (t2 : w.cell? ⟨tp, 2, none⟩ = some (.int .i64 (B.r : Int))) (ht : ¬ F tp ∧ N0 ≤ tp)
    (hnv : ∀ u, N.at_ u nv none) (hnb : N.blk nv = none) (hm : mu a ≤ n ∧ n ≤ 200) (hp : p = w.heap.size) : ShpAt K N E S q B mu p tp (w.alloc (.cells #[q, .pointer (some ⟨tp, 0, none⟩), nv, .slice none 0 0] T)) (.slice none 0 0) nv F ⟨a, B.full, none, []⟩ n := by
  subst hp
  have g : Gr w (w.alloc (.cells #[q, .pointer (some ⟨tp, 0, none⟩), nv, .slice none 0 0] T)) := (Gr.refl w).alloc _
  have hlt := (K.mine hs).lt
  exact ⟨by simp, by simp, by simp, by simp, by simp, by simp, hnv _, RowH.nil _ _, K.keep hs (g.block hlt) (.of_gr g), g.cell t0, g.cell t2, B.full_ok, S.gr hI g, by omega, fun e => by have := S.lt hI ((hF _ _).2 e); omega, ht.1, (fun g e => by cases e), (fun g e => by rw [hnb] at e; cases e), ⟨hN, ht.2⟩, ⟨by unfold muS; simp only [Option.toList, List.length_nil]; omega, hm.2⟩, fun x e => by cases e⟩
set_option maxRecDepth 100000 in
set_option maxHeartbeats 1200000 in
theorem snew_none (b t r : Int) (w : World) : Calls Tryz.prog 8 #[bktV b t r, .nilIface] w fun e w' => e = .returned (.tuple #[.pointer none, .iface 33 (.int .i64 7)]) ∧ Gr w w' := by
  have HG := Lib.hid ((Gr.refl w).alloc (.cells #[.int .i64 b, .int .i64 t, .int .i64 r] 25))
  unfold bktV
  go_enter Tryz.func8, Tryz.ntmps8
  go_wp2
  exact bodyPost_ret (v := .tuple #[.pointer none, .iface 33 (.int .i64 7)]) (by simp [results, Tryz.results8, go_sem]) rfl ⟨rfl, HG.out⟩
theorem iface_not_nil (t : TypeId) (v : Value) (w : World) : (binOp .eql 80 (.iface t v) .nilIface).run Tryz.prog w = .ok (.bool false) w := by kernel_rfl
set_option maxRecDepth 100000 in
set_option maxHeartbeats 1200000 in
theorem snew_no (b t r : Int) (tq : TypeId) (vq : Value) (w : World) (hb : Bd b) (ht : Bd t) (hr : Bd r) (h : ¬ BIn b t r) : Calls Tryz.prog 8 #[bktV b t r, .iface tq vq] w fun e w' => e = .returned (.tuple #[.pointer none, .iface 33 (.int .i64 2)]) ∧ Gr w w' := by
  have HG := Lib.hid ((Gr.refl w).alloc (.cells #[.int .i64 b, .int .i64 t, .int .i64 r] 25))
  have HS := Lib.hid (fun u => bnew_no b t r u hb ht hr h)
  have hni := iface_not_nil tq vq
  clear h hb ht hr
  unfold bktV at *
  go_enter Tryz.func8, Tryz.ntmps8
  go_wp2_with (go_at_call 24; refine (HS.out _).mono ?_; rintro e w1 ⟨rfl, hg⟩; have HG1 := Lib.hid (HG.out.trans hg); clear hg)
  exact bodyPost_ret (v := .tuple #[.pointer none, .iface 33 (.int .i64 2)]) (by simp [results, Tryz.results8, go_sem]) rfl ⟨rfl, HG1.out⟩
set_option maxRecDepth 100000 in
set_option maxHeartbeats 1200000 in
theorem snew_ok (hq : ∃ t v, q = .iface t v) (hF : ∀ b g, S.F b g ↔ b g) (B : Bkt) (w : World) (hN : N0 ≤ w.heap.size) {F : Nat → Prop} {a : α} {n : Nat} (hI : S.I w F a n) (hm : mu a ≤ n ∧ n ≤ 200) :
    Calls Tryz.prog 8 #[bktV (B.b : Int) (B.t : Int) (B.r : Int), q] w fun e w' => ∃ p, e = .returned (.tuple #[.pointer (some ⟨p, 0, none⟩), .nilIface]) ∧ ∃ tp, (w.heap.size ≤ p ∧ w.heap.size ≤ tp) ∧ ShpAt stP nkP 134 S q B mu p tp w' (.slice none 0 0) (.pointer none) F ⟨a, B.full, none, []⟩ n ∧ Gr w w' := by
  obtain ⟨tq, vq, rfl⟩ := hq
  have HG := Lib.hid ((Gr.refl w).alloc (.cells #[.int .i64 (B.b : Int), .int .i64 (B.t : Int), .int .i64 (B.r : Int)] 25))
  have HS := Lib.hid (fun u => bnew_ok B u)
  have hni := iface_not_nil tq vq
  have HFF := Lib.hid hF
  have HNN := Lib.hid hN
  have HI := Lib.hid hI
  have HM := Lib.hid hm
  clear hI hF hN hm
  unfold bktV at *
  go_enter Tryz.func8, Tryz.ntmps8
  go_wp2_with (go_at_call 24; refine (HS.out _).mono ?_; rintro e w1 ⟨tp, rfl, htp, hs, hg⟩; have HG1 := Lib.hid (HG.out.trans hg); have HS1 := Lib.hid hs; have HTP : Hid (w.heap.size ≤ tp) := Lib.hid (Nat.le_trans HG.out.size htp); clear hg hs htp)
  have hb := shp_born (K := stP) (N := nkP) (E := 134) (T := 86) (q := .iface tq vq) (mu := mu) (nv := .pointer none) HFF.out (Nat.le_trans HNN.out HG1.out.size) (S.gr HI.out HG1.out) HS1.out HS1.out.c0 HS1.out.c2 ⟨fun e => by have h1 := S.lt HI.out ((HFF.out _ _).2 e); have h2 := HTP.out; omega, Nat.le_trans HNN.out HTP.out⟩ (fun _ => rfl) rfl HM.out rfl
  exact bodyPost_ret (v := .tuple #[.pointer (some ⟨w1.heap.size, 0, none⟩), .nilIface]) (by simp [results, Tryz.results8, go_sem]) rfl ⟨_, rfl, tp, ⟨HG1.out.size, HTP.out⟩, hb, HG1.out.alloc _⟩
end
end Go.Proofs.YtgifghbnpdanhaaGreatDoor
/-
  Fifos: how much they hold.
-/
namespace Go.Proofs.YtgifghbnpdanhaaGreatDoor
open Go.RowKit

theorem fifo_mu_put (P R : Int) (head : Bool) (l : List Hel) (t : Int) (x : Hel) : ((fifo P R head).put l t x).1.length + ((fifo P R head).put l t x).2.length ≤ l.length + 1 := by
  cases head with
  | true =>
    rw [fifo_head]
    have h := shed_len P R (l ++ [x])
    simp at h ⊢
    omega
  | false =>
    by_cases hf : Full P R (l ++ [x])
    · rw [fifo_full hf]; simp
    · rw [fifo_fits hf]; simp
theorem fifo_mu_take (P R : Int) (head : Bool) (l : List Hel) (t : Int) : ((fifo P R head).take l t).1.length + ((fifo P R head).take l t).2.2.1.length + (if ((fifo P R head).take l t).2.2.2 = true then 1 else 0) ≤ l.length := by
  cases l with
  | nil => exact Nat.le_refl _
  | cons x r => exact Nat.le_refl _
theorem fifo_took (P R : Int) (head : Bool) (l : List Hel) (t : Int) (hl : Lens l) (h : ((fifo P R head).take l t).2.2.2 = true) : 0 ≤ ((fifo P R head).take l t).2.1.len ∧ ((fifo P R head).take l t).2.1.len ≤ 10000 := by
  cases l with
  | nil => cases h
  | cons x r => exact hl x (List.mem_cons_self ..)
theorem fifo_more (N0 p : Nat) (P R : Int) (head : Bool) : More (fifoSide N0 p P R head) List.length where
  up h hn := ⟨h.at_, h.ok.up hn, h.lo⟩
  few h := ⟨Nat.le_refl _, h.ok.few⟩
  put _ _ := fifo_mu_put P R head _ _ _
  take _ _ := fifo_mu_take P R head _ _
  took h _ := fifo_took P R head _ _ h.ok.lens
  when_ _ _ := Nat.le_refl _
theorem rfifo_more (N0 p : Nat) (P R : Int) (head : Bool) : More (rfifoSide N0 p P R head) List.length where
  up h hn := ⟨h.at_, h.ok.up hn, h.lo⟩
  few h := ⟨Nat.le_refl _, h.ok.few⟩
  put _ _ := fifo_mu_put P R head _ _ _
  take _ _ := fifo_mu_take P R head _ _
  took h _ := fifo_took P R head _ _ h.ok.lens
  when_ _ _ := Nat.le_refl _
end Go.Proofs.YtgifghbnpdanhaaGreatDoor
/-
  millracelaw.QueueFifo, walked.
-/
namespace Go.Proofs.YtgifghbnpdanhaaGreatDoor
open Go.RowKit Go.Extern.Stop Go.Stop Go.Extern

/-- A room that may be. -/
def RoomOk (a b : Int) : Prop := (0 ≤ a ∧ a ≤ 1000000) ∧ (0 ≤ b ∧ b ≤ 1000000)
theorem newfifo_ok (a b : Int) (head : Bool) (w : World) (h : RoomOk a b) : Calls Tryz.prog 5 #[.int .i64 a, .int .i64 b, .bool head] w fun e w' => e = .returned (.tuple #[.pointer (some ⟨w.heap.size, 0, none⟩), .nilIface]) ∧ w' = w.alloc (.cells #[.slice none 0 0, .int .i64 0, .int .i64 a, .int .i64 b, .bool head] 76) := by
  obtain ⟨⟨a1, a2⟩, b1, b2⟩ := h
  go_enter Tryz.func5, Tryz.ntmps5
  go_wp2
  exact bodyPost_ret (v := .tuple #[.pointer (some ⟨w.heap.size, 0, none⟩), .nilIface]) (by simp [results, Tryz.results5, go_sem]) rfl ⟨rfl, rfl⟩
theorem newfifo_bad (a b : Int) (head : Bool) (w : World) (h : ¬ RoomOk a b) : Calls Tryz.prog 5 #[.int .i64 a, .int .i64 b, .bool head] w fun e w' => e = .returned (.tuple #[.pointer none, .iface 33 (.int .i64 2)]) ∧ w = w' := by
  have h2 : a < 0 ∨ 1000000 < a ∨ b < 0 ∨ 1000000 < b := by unfold RoomOk at h; omega
  have H := Lib.hid h2
  clear h h2
  go_enter Tryz.func5, Tryz.ntmps5
  go_wp2
  all_goals
    first
    | exact bodyPost_ret (v := .tuple #[.pointer none, .iface 33 (.int .i64 2)]) (by simp [results, Tryz.results5, go_sem]) rfl ⟨rfl, rfl⟩
    | (exfalso; have := H.out; omega)
theorem fifo_born {w : World} {a b : Int} {head : Bool} {p : Nat} (hp : p = w.heap.size) : FifoAt (w.alloc (.cells #[.slice none 0 0, .int .i64 0, .int .i64 a, .int .i64 b, .bool head] 76)) p (.slice none 0 0) [] a b head := by
  subst hp
  exact ⟨⟨by simp, by simp [sumLen], by simp, by simp, RowH.nil _ _⟩, by simp, by simp, by simp⟩
theorem rfifo_born {w : World} {a b : Int} {head : Bool} {p : Nat} (hp : p = w.heap.size) : RFifoAt (w.alloc (.cells #[.int .i64 a, .int .i64 b, .bool head, .slice none 0 0] 46)) p (.slice none 0 0) [] a b head := by
  subst hp
  exact ⟨by simp, by simp, by simp, by simp, by simp, RowH.nil _ _⟩
theorem FifoOk.nil : FifoOk [] 0 := ⟨Nat.le_refl _, (fun _ h => by cases h), by omega⟩
theorem fifo_play (W : World) (a b : Int) (head : Bool) (hR : RoomOk a b) {v : Value} {xs : List Stp} (hx : StpIn W v xs) (hl : xs.length ≤ 120) :
    Calls Tryz.prog 10 #[.iface 28 (.pointer (some ⟨W.heap.size, 0, none⟩)), .iface 43 (.pointer (some ⟨W.heap.size + 1, 0, none⟩)), v, .nilFunc] ((W.alloc (.cells #[.slice none 0 0, .int .i64 0, .int .i64 a, .int .i64 b, .bool head] 76)).alloc (.cells #[.int .i64 a, .int .i64 b, .bool head, .slice none 0 0] 46)) fun e w' => e = .returned (.bool true) ∧ Gr W w' := by
  have h1 := fifo_born (w := W) (a := a) (b := b) (head := head) rfl
  have hg := (Gr.refl W).alloc (.cells #[.slice none 0 0, .int .i64 0, .int .i64 a, .int .i64 b, .bool head] 76)
  generalize hW1 : W.alloc (.cells #[.slice none 0 0, .int .i64 0, .int .i64 a, .int .i64 b, .bool head] 76) = W1 at *
  have hsz : W1.heap.size = W.heap.size + 1 := by rw [← hW1]; simp
  have h2 := rfifo_born (w := W1) (a := a) (b := b) (head := head) (p := W.heap.size + 1) hsz.symm
  have hg2 := (Gr.refl W1).alloc (.cells #[.int .i64 a, .int .i64 b, .bool head, .slice none 0 0] 46)
  generalize W1.alloc (.cells #[.int .i64 a, .int .i64 b, .bool head, .slice none 0 0] 46) = W2 at *
  have hgg := hg.trans hg2
  refine (played_any (N0 := W.heap.size) (S := fifoSide W.heap.size W.heap.size a b head) (T := rfifoSide W.heap.size (W.heap.size + 1) a b head) (fifo_pside hR.1 hR.2) (rfifo_side hR.1 hR.2) W2 (.slice none 0 0) (.slice none 0 0) [] ⟨⟨h1.gr hg2, .nil, Nat.le_refl _, fun g hg => by cases hg⟩, ⟨h2, .nil, Nat.le_succ _, fun g hg => by cases hg⟩, fun g hg hg' => ?_⟩ hgg.size v xs (hx.gr hgg) hl .nilFunc (.inl rfl)).mono fun e w' ⟨h3, h4⟩ => ⟨h3, Sav.gr hgg h4 fun q hq => hq⟩
  rcases hg with e | e
  · rcases hg' with e' | e'
    · omega
    · cases e'
  · cases e
end Go.Proofs.YtgifghbnpdanhaaGreatDoor

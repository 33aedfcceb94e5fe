/-
  The program's Fifo: Take, When; as a side of a play.
-/
import Derived.Test.YtgifghbnpdanhaaGreatDoorFifoB
namespace Go.Proofs.YtgifghbnpdanhaaGreatDoor
open Go.RowKit Go.Extern.Stop Go.Stop Go.Extern

theorem FifoDid.of_gr {w w' : World} {p : Nat} {v : Value} {l : List Hel} {P R : Int} {head : Bool} (h : FifoAt w p v l P R head) (g : Gr w w') : FifoDid w w' p v v l P R head :=
  ⟨h.gr g, .of_gr g h.l.lt, fun _ hg => .inl hg⟩
theorem fnext_any (p : Nat) (v : Value) (l : List Hel) (P R : Int) (head : Bool) (now : Int) (w : World) (h : FifoAt w p v l P R head) (hn : l.length ≤ 900) (hl : Lens l) :
    Calls Tryz.prog 88 #[.pointer (some ⟨p, 0, none⟩)] w fun e w' => ∃ v', e = .returned (.tuple #[((fifo P R head).take l now).2.1.val, .bool ((fifo P R head).take l now).2.2.2]) ∧ FifoDid w w' p v v' ((fifo P R head).take l now).1 P R head := by
  cases l with
  | nil => exact (lnext_nil p 0 v w h.l).mono fun e w' ⟨h1, h2⟩ => ⟨v, h1, .of_gr h h2⟩
  | cons x r => exact (lnext_cons p 0 v x r w h.l (Lens.sum (fun z hz => hl z (List.mem_cons_of_mem _ hz)) (by simp at hn; omega))).mono fun e w' ⟨h1, v', h2, h3, h4⟩ => ⟨v', h1, ⟨h.then h3 h2, h3, fun g hg => .inl (by rw [← h4]; exact hg)⟩⟩
set_option maxRecDepth 100000 in
set_option maxHeartbeats 40000000 in
theorem ftake_any (p : Nat) (v : Value) (l : List Hel) (P R : Int) (head : Bool) (now : Int) (w : World) (h : FifoAt w p v l P R head) (hn : l.length ≤ 900) (hl : Lens l) :
    Calls Tryz.prog 84 #[.pointer (some ⟨p, 0, none⟩), .int .i64 now] w fun e w' => ∃ v', e = .returned (.tuple #[((fifo P R head).take l now).2.1.val, .slice none 0 0, .bool ((fifo P R head).take l now).2.2.2]) ∧ FifoDid w w' p v v' ((fifo P R head).take l now).1 P R head := by
  have HP := Lib.hid h.l.lt
  have HF := Lib.hid h
  have HNX := Lib.hid (fun u (g : Gr w u) => fnext_any p v l P R head now u (h.gr g) hn hl)
  generalize (fifo P R head).take l now = res at *
  obtain ⟨l', x, lost, ok⟩ := res
  simp only [] at HNX ⊢
  unfold Hel.val at HNX ⊢
  clear h hn hl
  go_enter Tryz.func84, Tryz.ntmps84
  go_upto_region 1 with fail
  obtain ⟨w0, hw0⟩ : ∃ w0, w0 = w.alloc (.cells #[.int .i64 0, .int .i64 0, .int .i64 0, .int .i64 0, .int .i64 0, .int .i64 0] 134) := ⟨_, rfl⟩
  obtain ⟨rb, hrb⟩ : ∃ rb, rb = w.heap.size := ⟨_, rfl⟩
  have HR0 : Hid (HelRes w0 rb .zero ∧ rb = w.heap.size) := Lib.hid (by rw [hw0]; exact ⟨helRes_new w .zero hrb, hrb⟩)
  have HG0 : Hid (Gr w w0) := Lib.hid (by rw [hw0]; exact (Gr.refl _).alloc _)
  rw [← hw0, ← hrb]
  clear hw0 hrb
  go_upto_region 2 with (go_at_call 88; refine (HNX.out w0 HG0.out).mono ?_; rintro e w1 ⟨v', rfl, hd⟩; have HD := Lib.hid hd; obtain ⟨⟨r0, r1, r2, r3, r4, r5⟩, s0, s1, s2, s3, s4, s5⟩ := HR0.out.1.sav hd.sav.sav (fun e => e.elim (fun h1 => by have h2 := HR0.out.2; have h3 := HP.out; omega) (fun h1 => by have h4 := HF.out.l.row.lt h1; have h2 := HR0.out.2; omega)); clear hd)
  have HRR := Lib.hid (show HelRes w1 rb .zero from ⟨⟨r0, r1, r2, r3, r4, r5⟩, s0, s1, s2, s3, s4, s5⟩)
  obtain ⟨w2, hw2⟩ : ∃ w2, w2 = ((((((w1.setCell ⟨rb, 0, none⟩ (.int .i64 x.t)).setCell ⟨rb, 1, none⟩ (.int .i64 x.len)).setCell ⟨rb, 2, none⟩ (.int .i64 x.flow)).setCell ⟨rb, 3, none⟩ (.int .i64 x.band)).setCell ⟨rb, 4, none⟩ (.int .i64 x.mark)).setCell ⟨rb, 5, none⟩ (.int .i64 x.n)) := ⟨_, rfl⟩
  have HR2 := Lib.hid (show HelRes w2 rb x ∧ Sav (fun q => q = rb) w1 w2 from by rw [hw2]; exact hel_set6 HRR.out x)
  rw [← hw2]
  clear hw2 r0 r1 r2 r3 r4 r5 s0 s1 s2 s3 s4 s5
  obtain ⟨⟨r0, r1, r2, r3, r4, r5⟩, s0, s1, s2, s3, s4, s5⟩ := HR2.out.1
  go_wp2
  obtain ⟨w3, hw3⟩ : ∃ w3, w3 = ((((((w2.setCell ⟨rb, 0, none⟩ (.int .i64 x.t)).setCell ⟨rb, 1, none⟩ (.int .i64 x.len)).setCell ⟨rb, 2, none⟩ (.int .i64 x.flow)).setCell ⟨rb, 3, none⟩ (.int .i64 x.band)).setCell ⟨rb, 4, none⟩ (.int .i64 x.mark)).setCell ⟨rb, 5, none⟩ (.int .i64 x.n)) := ⟨_, rfl⟩
  have HR3 := Lib.hid (show HelRes w3 rb x ∧ Sav (fun q => q = rb) w2 w3 from by rw [hw3]; exact hel_set6 HR2.out.1 x)
  rw [← hw3]
  clear hw3 r0 r1 r2 r3 r4 r5 s0 s1 s2 s3 s4 s5
  obtain ⟨⟨q0, q1, q2, q3, q4, q5⟩, _⟩ := HR3.out.1
  have hsv := HR2.out.2.then HR3.out.2
  have hne : ∀ q, q = rb → w.heap.size ≤ q := fun q e => by have := HR0.out.2; omega
  have hle := HG0.out.size
  exact bodyPost_ret (v := .tuple #[.agg #[.int .i64 x.t, .int .i64 x.len, .int .i64 x.flow, .int .i64 x.band, .int .i64 x.mark, .int .i64 x.n], .slice none 0 0, .bool ok]) (by simp [results, Tryz.results84, go_sem, q0, q1, q2, q3, q4, q5]) rfl
    ⟨v', rfl, HD.out.at_.sav hsv (fun e => by have := HP.out; have := HR0.out.2; omega) (fun g hg e => (HD.out.own g hg).elim (fun h1 => by have := HF.out.l.row.lt h1; have := HR0.out.2; omega) (fun h1 => by have := HR0.out.1.at_.c0; have := cell_lt this; simp at this; omega)), ((LSav.of_gr HG0.out HP.out).trans HD.out.sav (fun g hg => .inl hg)).more hsv hne HP.out, fun g hg => (HD.out.own g hg).imp id (fun h1 => Nat.le_trans hle h1)⟩
set_option maxRecDepth 100000 in
theorem fwhen_any (p : Nat) (v : Value) (l : List Hel) (P R : Int) (head : Bool) (now : Int) (w : World) (h : FifoAt w p v l P R head) (hn : l.length ≤ 900) :
    Calls Tryz.prog 85 #[.pointer (some ⟨p, 0, none⟩), .int .i64 now] w fun e w' => e = .returned (.tuple #[.int .i64 now, .bool (decide (0 < l.length))]) ∧ Gr w w' := by
  have HN := Lib.hid hn
  have HL := Lib.hid h.l
  clear hn h
  go_enter Tryz.func85, Tryz.ntmps85
  go_wp2_with (go_at_call 82; refine (llen_any p 0 v l _ HL.out).mono ?_; rintro e w1 ⟨rfl, rfl⟩)
  all_goals
    exact bodyPost_ret (v := .tuple #[.int .i64 now, .bool (decide (0 < l.length))]) (by simp [results, Tryz.results85, go_sem]) rfl ⟨rfl, Gr.refl _⟩

/-- A Fifo's own: where its slice lies. -/
structure FifoI (N0 p : Nat) (P R : Int) (head : Bool) (w : World) (v : Value) (l : List Hel) (n : Nat) : Prop where
  at_ : FifoAt w p v l P R head
  ok : FifoOk l n
  lo : N0 ≤ p ∧ ∀ g, v.ownBlock = some g → N0 ≤ g
def fifoSide (N0 p : Nat) (P R : Int) (head : Bool) : Side (fifo P R head) N0 Value where
  I := FifoI N0 p P R head
  F := LFoot p
  lo h hg := hg.elim (fun e => by rw [e]; exact h.lo.1) (h.lo.2 _)
  lt h hg := hg.elim (fun e => by rw [e]; exact h.at_.l.lt) (fun e => h.at_.l.row.lt e)
  norat h hg := hg.elim (fun e => by obtain ⟨a, c, e3⟩ := h.at_.l.row.shape; rw [e]; exact .of_cell h.at_.l.c0 (fun b e2 => by rw [e3] at e2; cases e2) (fun x e2 => by rw [e3] at e2; cases e2)) (fun e => .row h.at_.l.row (fun b ⟨_, e2⟩ => by cases e2) (fun x ⟨_, e2⟩ => by cases e2) e)
  sav h k _ hB := ⟨h.at_.sav k (fun e => (hB _ e).2 (.inl rfl)) (fun g hg e => (hB _ e).2 (.inr hg)), h.ok, h.lo⟩
theorem fifo_moved {N0 p : Nat} {P R : Int} {head : Bool} {w w' : World} {v v' : Value} {l l' : List Hel} {n n' : Nat} (h : FifoI N0 p P R head w v l n) (d : FifoDid w w' p v v' l' P R head) (ok : FifoOk l' n') : (fifoSide N0 p P R head).Moved w v w' v' l' n' :=
  ⟨⟨d.at_, ok, h.lo.1, fun g hg => (d.own g hg).elim (h.lo.2 g) (fun h1 => Nat.le_trans h.lo.1 (Nat.le_trans (Nat.le_of_lt h.at_.l.lt) h1))⟩, d.sav.sav, fun g hg => hg.elim (fun e => .inl (.inl e)) (fun e => (d.own g e).imp .inr id)⟩
theorem fifo_pside {N0 p : Nat} {P R : Int} {head : Bool} (hP : 0 ≤ P ∧ P ≤ 1000000) (hR : 0 ≤ R ∧ R ≤ 1000000) : PSide (fifoSide N0 p P R head) (.iface 28 (.pointer (some ⟨p, 0, none⟩))) where
  put := ⟨_, _, (fun args w => by kernel_rfl : Meth _ "Put" 83 (.pointer (some ⟨p, 0, none⟩))), fun w b a n now x h g => (fput_any p b a P R head now x w h.at_ hP hR (by have := h.ok.few; have := h.ok.n; omega) h.ok.lens (by have := g.len; omega)).mono fun e w' ⟨r, v', h1, h2, h3⟩ => ⟨r, v', h1, h2, fifo_moved h h3 (fifo_put_ok h.ok g).1⟩⟩
  take := ⟨_, _, (fun args w => by kernel_rfl : Meth _ "Take" 84 (.pointer (some ⟨p, 0, none⟩))), fun w b a n now h _ => (ftake_any p b a P R head now w h.at_ (by have := h.ok.few; have := h.ok.n; omega) h.ok.lens).mono fun e w' ⟨v', h1, h2⟩ => ⟨_, v', h1, by rw [(fifo_take_ok h.ok).2]; exact RowH.nil _ _, fifo_moved h h2 (fifo_take_ok h.ok).1⟩⟩
  when_ := ⟨_, _, (fun args w => by kernel_rfl : Meth _ "When" 85 (.pointer (some ⟨p, 0, none⟩))), fun w b a n now h _ => (fwhen_any p b a P R head now w h.at_ (by have := h.ok.few; have := h.ok.n; omega)).mono fun e w' ⟨h1, h2⟩ => ⟨b, h1, .of_gr _ h h2⟩⟩
  few {w b a n} h := ⟨(show a.length ≤ 1000 from by have := h.ok.few; have := h.ok.n; omega), h.ok.lens⟩
  fewPut h g := (fifo_put_ok h.ok g).2
  fewTake h _ := by rw [(fifo_take_ok h.ok).2]; exact Nat.zero_le _
  len := ⟨_, _, (fun args w => by kernel_rfl : Meth _ "Len" 82 (.pointer (some ⟨p, 0, none⟩))), fun w b a n h => llen_g p 0 b a w h.at_.l⟩
  bytes := ⟨_, _, (fun args w => by kernel_rfl : Meth _ "Bytes" 81 (.pointer (some ⟨p, 0, none⟩))), fun w b a n h => lbytes_g p 0 b a w h.at_.l⟩
end Go.Proofs.YtgifghbnpdanhaaGreatDoor

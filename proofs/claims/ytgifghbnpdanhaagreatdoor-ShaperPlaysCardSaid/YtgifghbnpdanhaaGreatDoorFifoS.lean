/-
  The reference's Fifo: Take, When, All; as a side of a play. (Printed by genrfifo.py.)
-/
import Derived.Test.YtgifghbnpdanhaaGreatDoorFifoR
namespace Go.Proofs.YtgifghbnpdanhaaGreatDoor
open Go.RowKit Go.Extern.Stop Go.Stop Go.Extern

set_option maxRecDepth 100000 in
set_option maxHeartbeats 40000000 in
theorem rftake_any (p : Nat) (v : Value) (l : List Hel) (P R : Int) (head : Bool) (now : Int) (w : World) (h : RFifoAt w p v l P R head) (hn : l.length ≤ 900) :
    Calls Tryz.prog 142 #[.pointer (some ⟨p, 0, none⟩), .int .i64 now] w fun e w' => ∃ v', e = .returned (.tuple #[((fifo P R head).take l now).2.1.val, .slice none 0 0, .bool ((fifo P R head).take l now).2.2.2]) ∧ RDid w w' p 3 v v' ((fifo P R head).take l now).1 := by
  have HPL := Lib.hid h.l.lt
  obtain ⟨ba, cap, rfl⟩ := h.l.shape
  have HF := Lib.hid h
  have HN := Lib.hid hn
  clear h hn
  obtain ⟨i0, hi0, hz0, hz1, hz2⟩ := info_parts packInfo
  go_enter Tryz.func142, Tryz.ntmps142
  go_upto_region 1 with fail
  obtain ⟨w0, hw0⟩ : ∃ w0, w0 = w.alloc (.cells #[.int .i64 0, .int .i64 0, .int .i64 0, .int .i64 0, .int .i64 0, .int .i64 0] 95) := ⟨_, rfl⟩
  obtain ⟨rb, hrb⟩ : ∃ rb, rb = w.heap.size := ⟨_, rfl⟩
  have HR0 : Hid (HelRes w0 rb .zero ∧ rb = w.heap.size) := Lib.hid (by rw [hw0]; exact ⟨helRes_new w .zero hrb, hrb⟩)
  have HG0 : Hid (Gr w w0) := Lib.hid (by rw [hw0]; exact (Gr.refl _).alloc _)
  have HF0 := Lib.hid (HF.out.gr HG0.out)
  rw [← hw0, ← hrb]
  clear hw0 hrb
  have c3 := HF0.out.l.c
  have hne : ∀ q, q = rb → w.heap.size ≤ q := fun q e => by have := HR0.out.2; omega
  have HNE := Lib.hid hne
  clear hne
  cases l with
  | nil =>
    obtain ⟨⟨r0, r1, r2, r3, r4, r5⟩, s0, s1, s2, s3, s4, s5⟩ := HR0.out.1
    go_wp2
    obtain ⟨w3, hw3⟩ : ∃ w3, w3 = ((((((w0.setCell ⟨rb, 0, none⟩ (.int .i64 0)).setCell ⟨rb, 1, none⟩ (.int .i64 0)).setCell ⟨rb, 2, none⟩ (.int .i64 0)).setCell ⟨rb, 3, none⟩ (.int .i64 0)).setCell ⟨rb, 4, none⟩ (.int .i64 0)).setCell ⟨rb, 5, none⟩ (.int .i64 0)) := ⟨_, rfl⟩
    have HR3 := Lib.hid (show HelRes w3 rb .zero ∧ Sav (fun q => q = rb) w0 w3 from by rw [hw3]; exact hel_set6 HR0.out.1 .zero)
    rw [← hw3]
    clear hw3 r0 r1 r2 r3 r4 r5 s0 s1 s2 s3 s4 s5
    obtain ⟨⟨q0, q1, q2, q3, q4, q5⟩, _⟩ := HR3.out.1
    exact bodyPost_ret (v := .tuple #[.agg #[.int .i64 0, .int .i64 0, .int .i64 0, .int .i64 0, .int .i64 0, .int .i64 0], .slice none 0 0, .bool false]) (by simp [results, Tryz.results142, go_sem, q0, q1, q2, q3, q4, q5, Hel.zero]) rfl
      ⟨_, rfl, ((RDid.of_gr HF.out.l HG0.out).more HR3.out.2 (fun q e => ⟨HNE.out q e, fun e2 => by have h1 := HF.out.l.row.lt e2; have h2 := HNE.out q e; omega⟩) HPL.out)⟩
  | cons y rest =>
    have HLR := Lib.hid (show rest.length ≤ 901 from by have := HN.out; simp at this; omega)
    obtain ⟨ka2, kc2, he2, hcp, _, h3⟩ := HF0.out.l.row.any
    obtain ⟨kb, ko, hka, h4⟩ := h3.out (by simp)
    injection he2 with he3 he4 he5
    obtain rfl : ba = some ⟨kb, ko, none⟩ := he3.trans hka
    rw [← he5] at hcp
    have hy := h4 0 (by simp)
    rw [Nat.zero_mul, Nat.add_zero] at hy
    obtain ⟨y0, y1, y2, y3, y4, y5⟩ : HelAt w0 kb ko y := hy
    clear h3 h4 he3 he4 he5 hka
    rw [List.length_cons] at *
    go_upto_region 4 with fail
    obtain ⟨w5, hw5⟩ : ∃ w5, w5 = w0.alloc (.cells #[.int .i64 y.t, .int .i64 y.len, .int .i64 y.flow, .int .i64 y.band, .int .i64 y.mark, .int .i64 y.n] 95) := ⟨_, rfl⟩
    obtain ⟨yb, hyb⟩ : ∃ yb, yb = w0.heap.size := ⟨_, rfl⟩
    have HY5 : Hid (HelAt w5 yb 0 y ∧ yb = w0.heap.size) := Lib.hid (by rw [hw5]; exact ⟨held_new w0 y hyb, hyb⟩)
    have HG5 : Hid (Gr w0 w5) := Lib.hid (by rw [hw5]; exact (Gr.refl _).alloc _)
    have HF5 := Lib.hid (HF0.out.gr HG5.out)
    have HR5 := Lib.hid (HR0.out.1.gr HG5.out)
    rw [← hw5, ← hyb]
    clear hw5 hyb y0 y1 y2 y3 y4 y5 c3
    have e3 := HF5.out.l.c
    have ef := HF5.out.l.f
    have pl : p < w5.heap.size := cell_lt e3
    have HTL := Lib.hid (fun u (g : Gr w5 u) => HF5.out.l.row.gr g)
    have HAP := Lib.hid (fun (w9 : World) (v9 : Value) (hg : Gr w5 w9) (hr : RowH 95 w9 v9 rest) (ho : ∀ g, v9.ownBlock = some g → w5.heap.size ≤ g) => RDid.app HF5.out.l.c HF5.out.l.f (.of_gr hg) hr (fun g hg => .inr (ho g hg)) HF5.out.l.ne HF5.out.l.lt)
    by_cases hk1 : cap - 1 = 0
    · cases rest with
      | cons z r => exfalso; simp at hcp; omega
      | nil =>
        simp only [List.length_nil, Nat.zero_add] at *
        go_upto_region 5 with fail
        rw [← World.setCell_alloc_past _ _ _ _ pl]
        have HG4 := Lib.hid (show Gr w5 (w5.alloc (.cells #[] 95)) from (Gr.refl _).alloc _)
        have HR4 := Lib.hid (RowH.empty (E := 95) (w := w5) rfl)
        have HO4 := Lib.hid (show ∀ g, (Value.slice (some ⟨w5.heap.size, 0, none⟩) 0 0).ownBlock = some g → w5.heap.size ≤ g from fun g hg => by simp [Value.ownBlock] at hg; omega)
        have HDR := Lib.hid (HAP.out _ _ HG4.out HR4.out HO4.out)
        obtain ⟨w6, hw6⟩ : ∃ w6, w6 = (w5.alloc (.cells #[] 95)).setCell ⟨p, 3, none⟩ (.slice (some ⟨w5.heap.size, 0, none⟩) 0 0) := ⟨_, rfl⟩
        rw [← hw6] at HDR ⊢
        clear hw6
        have HYK := Lib.hid (HY5.out.1.sav HDR.out.sav.sav (fun e => e.elim (fun h1 => by have h2 := HY5.out.2; have h3 := HF0.out.l.lt; omega) (fun h1 => by have h2 := HF0.out.l.row.lt h1; have h3 := HY5.out.2; omega)))
        have HR6 := Lib.hid (HR5.out.sav HDR.out.sav.sav (fun e => e.elim (fun h1 => by have h2 := HR0.out.2; have h3 := HPL.out; omega) (fun h1 => by have h2 := HF.out.l.row.lt h1; have h3 := HR0.out.2; omega)))
        clear e3 ef
        obtain ⟨y0, y1, y2, y3, y4, y5⟩ := HYK.out
        obtain ⟨⟨r0, r1, r2, r3, r4, r5⟩, s0, s1, s2, s3, s4, s5⟩ := HR6.out
        go_wp2
        obtain ⟨w7, hw7⟩ : ∃ w7, w7 = ((((((w6.setCell ⟨rb, 0, none⟩ (.int .i64 y.t)).setCell ⟨rb, 1, none⟩ (.int .i64 y.len)).setCell ⟨rb, 2, none⟩ (.int .i64 y.flow)).setCell ⟨rb, 3, none⟩ (.int .i64 y.band)).setCell ⟨rb, 4, none⟩ (.int .i64 y.mark)).setCell ⟨rb, 5, none⟩ (.int .i64 y.n)) := ⟨_, rfl⟩
        have HR7 := Lib.hid (show HelRes w7 rb y ∧ Sav (fun q => q = rb) w6 w7 from by rw [hw7]; exact hel_set6 HR6.out y)
        rw [← hw7]
        clear hw7 r0 r1 r2 r3 r4 r5 s0 s1 s2 s3 s4 s5
        obtain ⟨⟨q0, q1, q2, q3, q4, q5⟩, _⟩ := HR7.out.1
        have hd := HDR.out.ahead (HG0.out.trans HG5.out) HPL.out
        exact bodyPost_ret (v := .tuple #[.agg #[.int .i64 y.t, .int .i64 y.len, .int .i64 y.flow, .int .i64 y.band, .int .i64 y.mark, .int .i64 y.n], .slice none 0 0, .bool true]) (by simp [results, Tryz.results142, go_sem, q0, q1, q2, q3, q4, q5]) rfl
          ⟨_, rfl, hd.more HR7.out.2 (fun q e => ⟨HNE.out q e, fun e2 => by have h1 := HO4.out q e2; have h2 := HR0.out.1.at_.c0; have h3 := cell_lt h2; have h4 := HG5.out.size; simp at h3; omega⟩) HPL.out⟩
    · have HT2 := Lib.hid (fun u (g : Gr w5 u) => RowH.tail (x := y) (xs := rest) (HTL.out u g))
      go_upto_region 5 with (at_builtin; refine wpList_append_tail rfl _ _ _ (by rfl) i0 Hel.zero.val Tryz.underlying44 hi0 hz0 hz1 hz2 rfl ?c1 w5.heap.size 0 (by rfl) (RowH.empty rfl) _ _ rest (by rfl) ?c3 ?c2 ?_; (case c1 => (intro u hu; exact (cells_int Hel.zero u (by simpa [Hel.val, Value.cells, Hel.cells] using hu)).2)); (case c3 => (exact (HT2.out _ ((Gr.refl _).alloc _)).all)); (case c2 => (have := HLR.out; omega)); intro v4 w4 hrow hgr hown; have HR4 := Lib.hid hrow; have HG4 := Lib.hid (show Gr w5 w4 from ((Gr.refl _).alloc _).grown hgr (fun k hk => by cases hk; exact Nat.le_refl _)); have HO4 := Lib.hid (show ∀ g, v4.ownBlock = some g → w5.heap.size ≤ g from fun g hg => (hown g hg).elim (fun h1 => by cases h1; exact Nat.le_refl _) (fun h1 => by simp at h1; omega)); obtain ⟨ta, tc, rfl⟩ := hrow.shape; have k3 := HG4.out.cell e3; have kf := (HG4.out.frozen (p := ⟨p, 3, none⟩) (cell_lt e3)).trans ef; clear hrow hgr hown)
      have HDR := Lib.hid (HAP.out _ _ HG4.out HR4.out HO4.out)
      obtain ⟨w6, hw6⟩ : ∃ w6, w6 = w4.setCell ⟨p, 3, none⟩ (.slice ta rest.length tc) := ⟨_, rfl⟩
      rw [← hw6] at HDR ⊢
      clear hw6
      have HYK := Lib.hid (HY5.out.1.sav HDR.out.sav.sav (fun e => e.elim (fun h1 => by have h2 := HY5.out.2; have h3 := HF0.out.l.lt; omega) (fun h1 => by have h2 := HF0.out.l.row.lt h1; have h3 := HY5.out.2; omega)))
      have HR6 := Lib.hid (HR5.out.sav HDR.out.sav.sav (fun e => e.elim (fun h1 => by have h2 := HR0.out.2; have h3 := HPL.out; omega) (fun h1 => by have h2 := HF.out.l.row.lt h1; have h3 := HR0.out.2; omega)))
      clear e3 ef k3 kf
      obtain ⟨y0, y1, y2, y3, y4, y5⟩ := HYK.out
      obtain ⟨⟨r0, r1, r2, r3, r4, r5⟩, s0, s1, s2, s3, s4, s5⟩ := HR6.out
      go_wp2
      obtain ⟨w7, hw7⟩ : ∃ w7, w7 = ((((((w6.setCell ⟨rb, 0, none⟩ (.int .i64 y.t)).setCell ⟨rb, 1, none⟩ (.int .i64 y.len)).setCell ⟨rb, 2, none⟩ (.int .i64 y.flow)).setCell ⟨rb, 3, none⟩ (.int .i64 y.band)).setCell ⟨rb, 4, none⟩ (.int .i64 y.mark)).setCell ⟨rb, 5, none⟩ (.int .i64 y.n)) := ⟨_, rfl⟩
      have HR7 := Lib.hid (show HelRes w7 rb y ∧ Sav (fun q => q = rb) w6 w7 from by rw [hw7]; exact hel_set6 HR6.out y)
      rw [← hw7]
      clear hw7 r0 r1 r2 r3 r4 r5 s0 s1 s2 s3 s4 s5
      obtain ⟨⟨q0, q1, q2, q3, q4, q5⟩, _⟩ := HR7.out.1
      have hd := HDR.out.ahead (HG0.out.trans HG5.out) HPL.out
      exact bodyPost_ret (v := .tuple #[.agg #[.int .i64 y.t, .int .i64 y.len, .int .i64 y.flow, .int .i64 y.band, .int .i64 y.mark, .int .i64 y.n], .slice none 0 0, .bool true]) (by simp [results, Tryz.results142, go_sem, q0, q1, q2, q3, q4, q5]) rfl
        ⟨_, rfl, hd.more HR7.out.2 (fun q e => ⟨HNE.out q e, fun e2 => by have h1 := HO4.out q e2; have h2 := HR0.out.1.at_.c0; have h3 := cell_lt h2; have h4 := HG5.out.size; simp at h3; omega⟩) HPL.out⟩
set_option maxRecDepth 100000 in
theorem rfwhen_any (p : Nat) (v : Value) (l : List Hel) (P R : Int) (head : Bool) (now : Int) (w : World) (h : RFifoAt w p v l P R head) :
    Calls Tryz.prog 143 #[.pointer (some ⟨p, 0, none⟩), .int .i64 now] w fun e w' => e = .returned (.tuple #[.int .i64 now, .bool (decide (0 < l.length))]) ∧ Gr w w' := by
  obtain ⟨ba, cap, rfl⟩ := h.l.shape
  have c3 := h.l.c
  clear h
  go_enter Tryz.func143, Tryz.ntmps143
  go_upto_region 1 with fail
  go_quiet (fail)
  go_wp2
  exact bodyPost_ret (v := .tuple #[.int .i64 now, .bool (decide (0 < l.length))]) (by simp [results, Tryz.results143, go_sem]) rfl ⟨rfl, by first | exact (Gr.refl _).drewN _ | exact Gr.refl _⟩
set_option maxRecDepth 100000 in
theorem rfall_any (p : Nat) (v : Value) (l : List Hel) (P R : Int) (head : Bool) (w : World) (h : RFifoAt w p v l P R head) :
    Calls Tryz.prog 140 #[.pointer (some ⟨p, 0, none⟩)] w fun e w' => e = .returned v ∧ w = w' := by
  obtain ⟨ba, cap, rfl⟩ := h.l.shape
  have c3 := h.l.c
  clear h
  go_enter Tryz.func140, Tryz.ntmps140
  go_wp2
  go_ret
  exact ⟨rfl, rfl⟩

structure RFifoI (N0 p : Nat) (P R : Int) (head : Bool) (w : World) (v : Value) (l : List Hel) (n : Nat) : Prop where
  at_ : RFifoAt w p v l P R head
  ok : FifoOk l n
  lo : N0 ≤ p ∧ ∀ g, v.ownBlock = some g → N0 ≤ g
def rfifoSide (N0 p : Nat) (P R : Int) (head : Bool) : Side (fifo P R head) N0 Value where
  I := RFifoI N0 p P R head
  F := LFoot p
  lo h hg := hg.elim (fun e => by rw [e]; exact h.lo.1) (h.lo.2 _)
  lt h hg := hg.elim (fun e => by rw [e]; exact h.at_.l.lt) (fun e => h.at_.l.row.lt e)
  norat h hg := hg.elim (fun e => by rw [e]; exact .of_cell h.at_.c0 (fun b e2 => by cases e2) (fun x e2 => by cases e2)) (fun e => .row h.at_.l.row (fun b ⟨_, e2⟩ => by cases e2) (fun x ⟨_, e2⟩ => by cases e2) e)
  sav h k _ hB := ⟨h.at_.sav k (fun e => (hB _ e).2 (.inl rfl)) (fun g hg e => (hB _ e).2 (.inr hg)), h.ok, h.lo⟩
theorem rfifo_moved {N0 p : Nat} {P R : Int} {head : Bool} {w w' : World} {v v' : Value} {l l' : List Hel} {n n' : Nat} (h : RFifoI N0 p P R head w v l n) (d : RDid w w' p 3 v v' l') (ok : FifoOk l' n') : (rfifoSide N0 p P R head).Moved w v w' v' l' n' :=
  ⟨⟨h.at_.then d, ok, h.lo.1, fun g hg => (d.own g hg).elim (h.lo.2 g) (fun h1 => Nat.le_trans h.lo.1 (Nat.le_trans (Nat.le_of_lt h.at_.l.lt) h1))⟩, d.sav.sav, fun g hg => hg.elim (fun e => .inl (.inl e)) (fun e => (d.own g e).imp .inr id)⟩
theorem rfifo_side {N0 p : Nat} {P R : Int} {head : Bool} (hP : 0 ≤ P ∧ P ≤ 1000000) (hR : 0 ≤ R ∧ R ≤ 1000000) : RSide (rfifoSide N0 p P R head) (.iface 43 (.pointer (some ⟨p, 0, none⟩))) where
  put := ⟨_, _, (fun args w => by kernel_rfl : Meth _ "Put" 141 (.pointer (some ⟨p, 0, none⟩))), fun w b a n now x h g => (rfput_any p b a P R head now x w h.at_ hP hR (by have := h.ok.few; have := h.ok.n; omega) h.ok.lens (by have := g.len; omega)).mono fun e w' ⟨r, v', h1, h2, h3⟩ => ⟨r, v', h1, h2, rfifo_moved h h3 (fifo_put_ok h.ok g).1⟩⟩
  take := ⟨_, _, (fun args w => by kernel_rfl : Meth _ "Take" 142 (.pointer (some ⟨p, 0, none⟩))), fun w b a n now h _ => (rftake_any p b a P R head now w h.at_ (by have := h.ok.few; have := h.ok.n; omega)).mono fun e w' ⟨v', h1, h2⟩ => ⟨_, v', h1, by rw [(fifo_take_ok h.ok).2]; exact RowH.nil _ _, rfifo_moved h h2 (fifo_take_ok h.ok).1⟩⟩
  when_ := ⟨_, _, (fun args w => by kernel_rfl : Meth _ "When" 143 (.pointer (some ⟨p, 0, none⟩))), fun w b a n now h _ => (rfwhen_any p b a P R head now w h.at_).mono fun e w' ⟨h1, h2⟩ => ⟨b, h1, .of_gr _ h h2⟩⟩
  few {w b a n} h := ⟨(show a.length ≤ 1000 from by have := h.ok.few; have := h.ok.n; omega), h.ok.lens⟩
  fewPut h g := (fifo_put_ok h.ok g).2
  fewTake h _ := by rw [(fifo_take_ok h.ok).2]; exact Nat.zero_le _
  all := ⟨_, _, (fun args w => by kernel_rfl : Meth _ "All" 140 (.pointer (some ⟨p, 0, none⟩))), fun w b a n h => (rfall_any p b a P R head w h.at_).mono fun e w' ⟨h1, h2⟩ => ⟨b, h1, by rw [← h2]; exact h.at_.l.row, by rw [← h2]; exact Gr.refl _⟩⟩
end Go.Proofs.YtgifghbnpdanhaaGreatDoor

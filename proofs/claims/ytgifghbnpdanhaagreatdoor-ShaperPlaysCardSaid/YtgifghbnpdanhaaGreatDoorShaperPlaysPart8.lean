/-
  Buckets: Check, New, NewFilled; millracelaw.of, many, wrong.
-/
import Derived.Test.YtgifghbnpdanhaaGreatDoorBktF
import Derived.Test.YtgifghbnpdanhaaGreatDoorRate
import Derived.Test.YtgifghbnpdanhaaGreatDoorShaperPlaysPart6
import Derived.Deep.RegionHeld3
import Derived.Test.YtgifghbnpdanhaaGreatDoorFrameP
namespace Go.Proofs.YtgifghbnpdanhaaGreatDoor
open Go.RowKit Go.Extern.Stop Go.Stop Go.Extern

/-- What is wrong with a bucket. -/
noncomputable def ckB (b t r : Int) : Int := if ckRate b t = 0 then (if 0 ≤ r ∧ r ≤ 1000000 then 0 else 2) else 2
def BIn (b t r : Int) : Prop := RateIn b t ∧ 0 ≤ r ∧ r ≤ 1000000
theorem ckB_ok {b t r : Int} (h : BIn b t r) : ckB b t r = 0 := by unfold ckB; rw [if_pos (ckRate_ok h.1), if_pos h.2]
theorem ckB_no {b t r : Int} (h : ¬ BIn b t r) : ckB b t r = 2 := by
  unfold ckB
  by_cases h1 : RateIn b t
  · rw [if_pos (ckRate_ok h1), if_neg (fun h2 => h ⟨h1, h2⟩)]
  · rw [if_neg (by rw [ckRate_no h1]; decide)]
theorem ckB_zero {b t r : Int} (h : ckB b t r = 0) : BIn b t r := Classical.byContradiction fun hh => by rw [ckB_no hh] at h; exact absurd h (by decide)
def bktV (b t r : Int) : Value := .agg #[.int .i64 b, .int .i64 t, .int .i64 r]
/-- A bucket that may be, out of its numbers. -/
theorem bkt_of {b t r : Int} (h : BIn b t r) : ∃ B : Bkt, b = (B.b : Int) ∧ t = (B.t : Int) ∧ r = (B.r : Int) := by
  obtain ⟨⟨h1, h2⟩, h3, h4⟩ := h
  exact ⟨⟨b.toNat, t.toNat, r.toNat, by omega, by omega, by omega⟩, by simp only; omega, by simp only; omega, by simp only; omega⟩
theorem Bkt.bin (B : Bkt) : BIn (B.b : Int) (B.t : Int) (B.r : Int) := by
  have h1 := B.hb
  have h2 := B.ht
  have h3 := B.hr
  exact ⟨⟨by omega, by omega⟩, by omega, by omega⟩

set_option maxRecDepth 100000 in
set_option maxHeartbeats 4000000 in
theorem bcheck_any (b t r : Int) (w : World) (hb : Bd b) (ht : Bd t) (hr : Bd r) : Calls Tryz.prog 30 #[bktV b t r] w fun e w' => e = .returned (errV (ckB b t r)) ∧ Gr w w' := by
  have HG := Lib.hid ((Gr.refl w).alloc (.cells #[.int .i64 b, .int .i64 t, .int .i64 r] 25))
  have C2 : Hid ((w.alloc (.cells #[.int .i64 b, .int .i64 t, .int .i64 r] 25)).cell? ⟨w.heap.size, 2, none⟩ = some (.int .i64 r)) := Lib.hid (by simp)
  have HS := Lib.hid (fun u => speed_check b t u hb ht)
  have r1 := hr.1
  have r2 := hr.2
  unfold bktV
  clear hb ht hr
  by_cases h1 : RateIn b t
  · have HZ := Lib.hid (errV_zero (ckRate_ok h1))
    by_cases h2 : 0 ≤ r ∧ r ≤ 1000000
    · have HC := Lib.hid (errV_zero (ckB_ok ⟨h1, h2⟩))
      obtain ⟨h3, h4⟩ := h2
      clear h1
      go_enter Tryz.func30, Tryz.ntmps30
      go_wp2_with (go_at_call 35; refine (HS.out _).mono ?_; rintro e w1 ⟨rfl, hg⟩; rw [HZ.out]; have c2 := hg.cell C2.out; have HG1 := Lib.hid (HG.out.trans hg); clear hg)
      go_ret
      exact ⟨by rw [HC.out]; rfl, HG1.out⟩
    · have HC : Hid (errV (ckB b t r) = .iface 33 (.int .i64 2)) := Lib.hid (by rw [ckB_no (fun h => h2 h.2)]; exact errV_ne (by decide))
      clear h1
      by_cases h3 : r < 0
      · clear h2
        go_enter Tryz.func30, Tryz.ntmps30
        go_wp2_with (go_at_call 35; refine (HS.out _).mono ?_; rintro e w1 ⟨rfl, hg⟩; rw [HZ.out]; have c2 := hg.cell C2.out; have HG1 := Lib.hid (HG.out.trans hg); clear hg)
        go_ret
        exact ⟨by rw [HC.out]; rfl, HG1.out⟩
      · have h4 : 1000000 < r := by omega
        clear h2
        go_enter Tryz.func30, Tryz.ntmps30
        go_wp2_with (go_at_call 35; refine (HS.out _).mono ?_; rintro e w1 ⟨rfl, hg⟩; rw [HZ.out]; have c2 := hg.cell C2.out; have HG1 := Lib.hid (HG.out.trans hg); clear hg)
        all_goals (try (exfalso; omega))
        all_goals
          go_ret
          exact ⟨by rw [HC.out]; rfl, HG1.out⟩
  · have HZ : Hid (errV (ckRate b t) = .iface 33 (.int .i64 2)) := Lib.hid (by rw [ckRate_no h1]; exact errV_ne (by decide))
    have HC : Hid (errV (ckB b t r) = .iface 33 (.int .i64 2)) := Lib.hid (by rw [ckB_no (fun h => h1 h.1)]; exact errV_ne (by decide))
    clear h1
    go_enter Tryz.func30, Tryz.ntmps30
    go_wp2_with (go_at_call 35; refine (HS.out _).mono ?_; rintro e w1 ⟨rfl, hg⟩; rw [HZ.out]; have HG1 := Lib.hid (HG.out.trans hg); clear hg)
    go_ret
    exact ⟨by rw [HC.out]; rfl, HG1.out⟩
set_option maxRecDepth 100000 in
set_option maxHeartbeats 4000000 in
theorem rbcheck_any (b t r : Int) (w : World) : Calls Tryz.prog 6 #[bktV b t r] w fun e w' => e = .returned (.int .i64 (ckB b t r)) ∧ Gr w w' := by
  have HG := Lib.hid ((Gr.refl w).alloc (.cells #[.int .i64 b, .int .i64 t, .int .i64 r] 35))
  have C2 : Hid ((w.alloc (.cells #[.int .i64 b, .int .i64 t, .int .i64 r] 35)).cell? ⟨w.heap.size, 2, none⟩ = some (.int .i64 r)) := Lib.hid (by simp)
  unfold bktV
  by_cases h1 : RateIn b t
  · have HZ := Lib.hid (ckRate_ok h1)
    by_cases h2 : 0 ≤ r ∧ r ≤ 1000000
    · have HC := Lib.hid (ckB_ok ⟨h1, h2⟩)
      have HW := Lib.hid (fun u => within_yes r 0 1000000 u h2.1 h2.2)
      clear h1 h2
      go_enter Tryz.func6, Tryz.ntmps6
      go_wp2_with (first
        | (go_at_call 22; refine (rateCheck_any b t _).mono ?_; rintro e w1 ⟨rfl, hg⟩; rw [HZ.out]; have c2 := hg.cell C2.out; have HG1 := Lib.hid (HG.out.trans hg); clear hg)
        | (go_at_call 23; refine (HW.out _).mono ?_; rintro e w1 ⟨rfl, rfl⟩))
      go_ret
      exact ⟨by rw [HC.out]; rfl, HG1.out⟩
    · have HC := Lib.hid (ckB_no (b := b) (t := t) (r := r) (fun h => h2 h.2))
      have HW := Lib.hid (fun u => within_no r 0 1000000 u (by omega))
      clear h1 h2
      go_enter Tryz.func6, Tryz.ntmps6
      go_wp2_with (first
        | (go_at_call 22; refine (rateCheck_any b t _).mono ?_; rintro e w1 ⟨rfl, hg⟩; rw [HZ.out]; have c2 := hg.cell C2.out; have HG1 := Lib.hid (HG.out.trans hg); clear hg)
        | (go_at_call 23; refine (HW.out _).mono ?_; rintro e w1 ⟨rfl, rfl⟩))
      go_ret
      exact ⟨by rw [HC.out]; rfl, HG1.out⟩
  · have HZ := Lib.hid (ckRate_no h1)
    have HC := Lib.hid (ckB_no (b := b) (t := t) (r := r) (fun h => h1 h.1))
    clear h1
    go_enter Tryz.func6, Tryz.ntmps6
    go_wp2_with (go_at_call 22; refine (rateCheck_any b t _).mono ?_; rintro e w1 ⟨rfl, hg⟩; rw [HZ.out]; have HG1 := Lib.hid (HG.out.trans hg); clear hg)
    go_ret
    exact ⟨by rw [HC.out]; rfl, HG1.out⟩
set_option maxRecDepth 100000 in
set_option maxHeartbeats 4000000 in
theorem bnew_no (b t r : Int) (w : World) (hb : Bd b) (ht : Bd t) (hr : Bd r) (h : ¬ BIn b t r) : Calls Tryz.prog 24 #[bktV b t r] w fun e w' => e = .returned (.tuple #[.pointer none, .iface 33 (.int .i64 2)]) ∧ Gr w w' := by
  have HG := Lib.hid ((Gr.refl w).alloc (.cells #[.int .i64 b, .int .i64 t, .int .i64 r] 25))
  have HS := Lib.hid (fun u => bcheck_any b t r u hb ht hr)
  have HZ : Hid (errV (ckB b t r) = .iface 33 (.int .i64 2)) := Lib.hid (by rw [ckB_no h]; exact errV_ne (by decide))
  clear h hb ht hr
  unfold bktV at *
  go_enter Tryz.func24, Tryz.ntmps24
  go_wp2_with (go_at_call 30; refine (HS.out _).mono ?_; rintro e w1 ⟨rfl, hg⟩; rw [HZ.out]; have HG1 := Lib.hid (HG.out.trans hg); clear hg)
  go_ret2
  exact ⟨rfl, HG1.out⟩
theorem st_new (w : World) (B : Bkt) {x : Int} (hx : x = (B.r : Int) * (B.t : Int)) {n : Nat} (hn : n = w.heap.size) : StAt (w.alloc (.cells #[.int .i64 (B.b : Int), .int .i64 (B.t : Int), .int .i64 (B.r : Int), .int .i64 0, .int .i64 x] 131)) n B B.full := by
  subst hn hx
  exact ⟨by simp, by simp, by simp, by simp [Bkt.full], by simp [Bkt.full], by simp, by simp⟩
set_option maxRecDepth 100000 in
set_option maxHeartbeats 4000000 in
theorem bnew_ok (B : Bkt) (w : World) : Calls Tryz.prog 24 #[bktV (B.b : Int) (B.t : Int) (B.r : Int)] w fun e w' => ∃ p, e = .returned (.tuple #[.pointer (some ⟨p, 0, none⟩), .nilIface]) ∧ w.heap.size ≤ p ∧ StAt w' p B B.full ∧ Gr w w' := by
  have h1 := B.hb
  have h2 := B.ht
  have h3 := B.hr
  have HG := Lib.hid ((Gr.refl w).alloc (.cells #[.int .i64 (B.b : Int), .int .i64 (B.t : Int), .int .i64 (B.r : Int)] 25))
  have HS := Lib.hid (fun u => bcheck_any (B.b : Int) (B.t : Int) (B.r : Int) u ⟨by omega, by omega⟩ ⟨by omega, by omega⟩ ⟨by omega, by omega⟩)
  have HZ := Lib.hid (errV_zero (ckB_ok B.bin))
  have hm := B.room
  obtain ⟨m, hmm⟩ : ∃ m, (B.r : Int) * (B.t : Int) = m := ⟨_, rfl⟩
  rw [hmm] at hm
  have HST := Lib.hid (fun u => st_new u B hmm.symm rfl)
  have C0 : Hid ((w.alloc (.cells #[.int .i64 (B.b : Int), .int .i64 (B.t : Int), .int .i64 (B.r : Int)] 25)).cell? ⟨w.heap.size, 0, none⟩ = some (.int .i64 (B.b : Int))) := Lib.hid (by simp)
  have C1 : Hid ((w.alloc (.cells #[.int .i64 (B.b : Int), .int .i64 (B.t : Int), .int .i64 (B.r : Int)] 25)).cell? ⟨w.heap.size, 1, none⟩ = some (.int .i64 (B.t : Int))) := Lib.hid (by simp)
  have C2 : Hid ((w.alloc (.cells #[.int .i64 (B.b : Int), .int .i64 (B.t : Int), .int .i64 (B.r : Int)] 25)).cell? ⟨w.heap.size, 2, none⟩ = some (.int .i64 (B.r : Int))) := Lib.hid (by simp)
  unfold bktV at *
  go_enter Tryz.func24, Tryz.ntmps24
  go_wp2_with (go_at_call 30; refine (HS.out _).mono ?_; rintro e w1 ⟨rfl, hg⟩; rw [HZ.out]; have c0 := hg.cell C0.out; have c1 := hg.cell C1.out; have c2 := hg.cell C2.out; have HG1 := Lib.hid (HG.out.trans hg); clear hg)
  go_ret2
  exact ⟨_, rfl, HG1.out.size, HST.out _, HG1.out.alloc _⟩
theorem filled_new (w : World) (B : Bkt) {g : Nat} (hr : RatV w g (B.r : Int) 1) {n : Nat} (hn : n = w.heap.size) : FAt (w.alloc (.cells #[.int .i64 (B.b : Int), .int .i64 (B.t : Int), .int .i64 (B.r : Int), .int .i64 0, .pointer (some ⟨g, 0, none⟩)] 108)) n B B.full g := by
  subst hn
  refine ⟨by simp, by simp, by simp, by simp [Bkt.full], by simp, by simp, by simp, ?_⟩
  exact ((hr.gr ((Gr.refl w).alloc _)).congr (by have := B.ht; omega) (by simp [Bkt.full]))
set_option maxRecDepth 100000 in
set_option maxHeartbeats 4000000 in
theorem newFilled_any (B : Bkt) (w : World) : Calls Tryz.prog 11 #[bktV (B.b : Int) (B.t : Int) (B.r : Int)] w fun e w' => ∃ p g, e = .returned (.pointer (some ⟨p, 0, none⟩)) ∧ w.heap.size ≤ p ∧ FAt w' p B B.full g ∧ Gr w w' := by
  have h3 := B.hr
  obtain ⟨w0, hw0⟩ : ∃ w0, w0 = w.alloc (.cells #[.int .i64 (B.b : Int), .int .i64 (B.t : Int), .int .i64 (B.r : Int)] 35) := ⟨_, rfl⟩
  have HG : Hid (Gr w w0) := Lib.hid (by rw [hw0]; exact (Gr.refl w).alloc _)
  have C0 : Hid (w0.cell? ⟨w.heap.size, 0, none⟩ = some (.int .i64 (B.b : Int))) := Lib.hid (by rw [hw0]; simp)
  have C1 : Hid (w0.cell? ⟨w.heap.size, 1, none⟩ = some (.int .i64 (B.t : Int))) := Lib.hid (by rw [hw0]; simp)
  have C2 : Hid (w0.cell? ⟨w.heap.size, 2, none⟩ = some (.int .i64 (B.r : Int))) := Lib.hid (by rw [hw0]; simp)
  have HI := Lib.hid (fun u => refInt_any (B.r : Int) u (by omega))
  have HF := Lib.hid (fun (u : World) (g : Nat) (hr : RatV u g (B.r : Int) 1) => filled_new u B hr rfl)
  unfold bktV at *
  go_enter Tryz.func11, Tryz.ntmps11
  go_wp2
  rw [← hw0]
  clear hw0
  have c0 := C0.out
  have c1 := C1.out
  have c2 := C2.out
  go_region_held3 (fun w' => w'.cell? ⟨w.heap.size, 0, none⟩ = some (.int .i64 (B.b : Int)) ∧ w'.cell? ⟨w.heap.size, 1, none⟩ = some (.int .i64 (B.t : Int)) ∧ w'.cell? ⟨w.heap.size, 2, none⟩ = some (.int .i64 (B.r : Int)))
    (first
      | exact ⟨((Gr.refl w0).drew.trans hg1).cell C0.out, ((Gr.refl w0).drew.trans hg1).cell C1.out, ((Gr.refl w0).drew.trans hg1).cell C2.out⟩
      | go_keep)
    (first
      | (go_at_call 28; refine (HI.out _).mono ?_; rintro e w1 ⟨g, rfl, hgs, hr, hg1⟩))
  have HG1 := Lib.hid (HG.out.trans ((Gr.refl w0).drew.trans hg1))
  have HF1 := Lib.hid (HF.out _ _ hr)
  clear hg1 hr hgs
  go_wp2
  go_ret
  exact ⟨_, _, rfl, HG1.out.size, HF1.out, HG1.out.alloc _⟩
end Go.Proofs.YtgifghbnpdanhaaGreatDoor
/-
  A bucket that came in.
-/
namespace Go.Proofs.YtgifghbnpdanhaaGreatDoor
open Go.ChangeShapes Go.WideShapes Go.ChangeAt Go.RowKit Go.Deep

theorem three {α : Type} {l : List α} (h : l.length = 3) : ∃ a b c, l = [a, b, c] := by
  match l, h with
  | [a, b, c], _ => exact ⟨a, b, c, rfl⟩
theorem two {α : Type} {l : List α} (h : l.length = 2) : ∃ a b, l = [a, b] := by
  match l, h with
  | [a, b], _ => exact ⟨a, b, rfl⟩
set_option maxRecDepth 100000 in
theorem bucket_of_trod {H : Type} {enc : TypeId × Value → H} {W : World} {base : Nat} {v : Value} {d : DataW H} {ps : List MemPlace} (hok : Value.okWide Tryz.prog W .any base 25 v) (h : DataW.Trod enc Tryz.prog W 0 (fun _ => true) true 25 v d ps) :
    ∃ b t r : Int, v = bktV b t r ∧ Bd b ∧ Bd t ∧ Bd r := by
  obtain ⟨cs, rfl, hsz⟩ := okWide_struct Tryz.underlying25 hok
  obtain ⟨fuel, hf⟩ := h
  obtain ⟨xs, m, _, _, hcl, hl, hfs⟩ := DataW.trod_struct Tryz.underlying25 hf
  have hlen : cs.toList.length = 3 := (show cs.toList.length = Tryz.prog.cellsOf 25 from hcl).trans (by kernel_rfl)
  have hxl : xs.length = 2 := hl
  obtain ⟨l⟩ := cs
  obtain ⟨c0, c1, c2, rfl⟩ := three hlen
  obtain ⟨y0, y1, rfl⟩ := two hxl
  have e0 : DataW.trod enc Tryz.prog W 0 (fun _ => true) true m 23 (([c0, c1, c2].drop 0).take (Tryz.prog.cellsOf 23)) = some y0 := hfs 0 _ rfl
  have e1 : DataW.trod enc Tryz.prog W 0 (fun _ => true) true m 3 (([c0, c1, c2].drop 2).take (Tryz.prog.cellsOf 3)) = some y1 := hfs 1 _ rfl
  have k0 : Tryz.prog.cellsOf 23 = 2 := by kernel_rfl
  rw [k0] at e0
  rw [cellsInt] at e1
  obtain ⟨F, hl2, hF⟩ := rec_of_cells rec_rate e0
  have h0 := hF 0 (by omega)
  have h1 := hF 1 (by omega)
  simp at h0 h1
  obtain ⟨z2, g2, b2⟩ := int_cell Tryz.underlying3 e1
  simp at g2
  subst g2
  obtain ⟨rfl, b0⟩ := h0
  obtain ⟨rfl, b1⟩ := h1
  exact ⟨_, _, _, rfl, b0, b1, b2⟩
end Go.Proofs.YtgifghbnpdanhaaGreatDoor

/-
  early.New, millraceref.RedCheck: which are made. (Printed by genredf.py.)
-/
import Derived.Test.YtbpofdfehcbppaaDoorRedC
import Derived.Test.YtbpofdfehcbppaaDoorRedE
import Derived.Test.YtbpofdfehcbppaaDoorBoxd
import Derived.Test.YtbpofdfehcbppaaDoorFifoW
namespace Go.Proofs.YtbpofdfehcbppaaDoor
open Go.RowKit Go.Extern.Stop Go.Stop Go.Extern

def SetOk (lo hi of sl : Int) : Prop := 0 ≤ lo ∧ lo < hi ∧ hi ≤ 1000000 ∧ (1 ≤ of ∧ of ≤ 1000) ∧ (0 ≤ sl ∧ sl ≤ 10)
/-- A setup's cells. -/
structure SetAt (w : World) (p : Nat) (lo hi of sl : Int) (mk : Bool) : Prop where
  c0 : w.cell? ⟨p, 0, none⟩ = some (.int .i64 lo)
  c1 : w.cell? ⟨p, 1, none⟩ = some (.int .i64 hi)
  c2 : w.cell? ⟨p, 2, none⟩ = some (.int .i64 of)
  c3 : w.cell? ⟨p, 3, none⟩ = some (.int .i64 sl)
  c4 : w.cell? ⟨p, 4, none⟩ = some (.bool mk)
theorem SetAt.gr {w w' : World} {p : Nat} {lo hi of sl : Int} {mk : Bool} (h : SetAt w p lo hi of sl mk) (g : Gr w w') : SetAt w' p lo hi of sl mk := ⟨g.cell h.c0, g.cell h.c1, g.cell h.c2, g.cell h.c3, g.cell h.c4⟩
theorem set_new {w : World} {p : Nat} {lo hi of sl : Int} {mk : Bool} {T : TypeId} (hp : p = w.heap.size) : SetAt (w.alloc (.cells #[.int .i64 lo, .int .i64 hi, .int .i64 of, .int .i64 sl, .bool mk] T)) p lo hi of sl mk := by
  subst hp; exact ⟨by simp, by simp, by simp, by simp, by simp⟩
/-- A Fifo's cells, empty. -/
structure FifoC (w : World) (p : Nat) (P R : Int) (head : Bool) : Prop where
  c0 : w.cell? ⟨p, 0, none⟩ = some (.slice none 0 0)
  c1 : w.cell? ⟨p, 1, none⟩ = some (.int .i64 0)
  c2 : w.cell? ⟨p, 2, none⟩ = some (.int .i64 P)
  c3 : w.cell? ⟨p, 3, none⟩ = some (.int .i64 R)
  c4 : w.cell? ⟨p, 4, none⟩ = some (.bool head)
theorem FifoC.gr {w w' : World} {p : Nat} {P R : Int} {head : Bool} (h : FifoC w p P R head) (g : Gr w w') : FifoC w' p P R head := ⟨g.cell h.c0, g.cell h.c1, g.cell h.c2, g.cell h.c3, g.cell h.c4⟩
theorem fifoC_new {w : World} {p : Nat} {P R : Int} {head : Bool} {T : TypeId} (hp : p = w.heap.size) : FifoC (w.alloc (.cells #[.slice none 0 0, .int .i64 0, .int .i64 P, .int .i64 R, .bool head] T)) p P R head := by
  subst hp; exact ⟨by simp, by simp, by simp, by simp, by simp⟩
def Fg.emptyI (n : Nat) : Fg := ⟨fun u w => ∃ g, u = .slice (some ⟨g, 0, none⟩) 0 0 ∧ n ≤ g ∧ IntRow w u [], fun _ _ _ ⟨g, h1, h2, h3⟩ k => ⟨g, h1, h2, h3.gr k⟩⟩
def Fg.ownI (n : Nat) (xs : List Int) : Fg := ⟨fun u w => IntRow w u xs ∧ ∀ g, u.ownBlock = some g → n ≤ g, fun _ _ _ ⟨h1, h2⟩ k => ⟨h1.gr k, h2⟩⟩
section
variable {ev : Operand → Value} {o : Oper} {w : World} {x y : Operand} {u : Value}
theorem q_buildI0 (ho : o.op = .buildSlice 42 0 #[]) : (execOp ev o).run Tryd.prog w = .ok (.value (.slice (some ⟨w.heap.size, 0, none⟩) 0 0)) (w.alloc (.cells #[] 3)) := by
  simp [execOp, ho, go_sem]
theorem q_loadFifo {p : Nat} {P R : Int} {head : Bool} (ho : o.op = .load 35 x) (h : ev x = .pointer (some ⟨p, 0, none⟩)) (hc : FifoC w p P R head) : (execOp ev o).run Tryd.prog w = .ok (.value (.agg #[.slice none 0 0, .int .i64 0, .int .i64 P, .int .i64 R, .bool head])) w := by
  obtain ⟨c0, c1, c2, c3, c4⟩ := hc
  simp [execOp, ho, h, c0, c1, c2, c3, c4, go_sem]
theorem q_loadSetup {p : Nat} {lo hi of sl : Int} {mk : Bool} (ho : o.op = .load 54 x) (h : ev x = .pointer (some ⟨p, 0, none⟩)) (hc : SetAt w p lo hi of sl mk) : (execOp ev o).run Tryd.prog w = .ok (.value (.agg #[.int .i64 lo, .int .i64 hi, .int .i64 of, .int .i64 sl, .bool mk])) w := by
  obtain ⟨c0, c1, c2, c3, c4⟩ := hc
  simp [execOp, ho, h, c0, c1, c2, c3, c4, go_sem]
end
section
variable {ev : Operand → Value} {o : Oper} {w : World} {x y z : Operand} {u : Value}

end

set_option maxRecDepth 100000 in
set_option maxHeartbeats 4000000 in
theorem rednew_ok (lo hi of sl P R : Int) (mk : Bool) (tv : Value) (tape : List Int) (w : World) (hs : SetOk lo hi of sl) (hr : RoomOk P R) (ht : Ints w tv tape) (hl : tape.length ≤ 1000) :
    Calls Tryd.prog 15 #[.agg #[.int .i64 lo, .int .i64 hi, .int .i64 of, .int .i64 sl, .bool mk], .int .i64 P, .int .i64 R, tv] w fun e w' => ∃ p tv', e = .returned (.tuple #[.pointer (some ⟨p, 0, none⟩), .nilIface]) ∧ RedAt w' p (.slice none 0 0) tv' ⟨lo, hi, of, sl.toNat, mk, P, R, tape⟩ [] 0 0 0 ∧ Gr w w' ∧ w.heap.size ≤ p ∧ ∀ g, tv'.ownBlock = some g → w.heap.size ≤ g := by
  have HR := Lib.hid hr
  have HT := Lib.hid ht
  have HL := Lib.hid hl
  have HSL := Lib.hid hs.2.2.2.2
  obtain ⟨h1, h2, h3, ⟨h4, h5⟩, h6, h7⟩ := hs
  obtain ⟨ta, tc, rfl⟩ := ints_shape ht
  clear hr ht
  go_enter Tryd.func15, Tryd.ntmps15
  go_upto_region 4 with (go_at_call 10; refine (newfifo_ok P R false _ HR.out).mono ?_; rintro e w1 ⟨rfl, rfl⟩)
  obtain ⟨w0, hw0⟩ : ∃ w0, w0 = (w.alloc (.cells #[.int .i64 lo, .int .i64 hi, .int .i64 of, .int .i64 sl, .bool mk] 54)).alloc (.cells #[.slice none 0 0, .int .i64 0, .int .i64 P, .int .i64 R, .bool false] 35) := ⟨_, rfl⟩
  obtain ⟨sb, hsb⟩ : ∃ sb, sb = w.heap.size := ⟨_, rfl⟩
  obtain ⟨fb, hfb⟩ : ∃ fb, fb = w.heap.size + 1 := ⟨_, rfl⟩
  have HS0 : Hid (SetAt w0 sb lo hi of sl mk) := Lib.hid (by rw [hw0]; exact (set_new hsb).gr ((Gr.refl _).alloc _))
  have HF0 : Hid (FifoC w0 fb P R false) := Lib.hid (by rw [hw0]; exact fifoC_new (by rw [hfb]; simp))
  have HG0 : Hid (Gr w w0) := Lib.hid (by rw [hw0]; exact ((Gr.refl _).alloc _).alloc _)
  have HT0 := Lib.hid (HT.out.gr HG0.out)
  rw [← hw0, ← hfb, ← hsb]
  clear hw0 hfb hsb
  obtain ⟨c0, c1, c2, c3, _⟩ := HS0.out
  go_upto_region 8 with fail
  clear c0 c1 c2 c3 h1 h2 h3 h4 h5 h6 h7
  refine wp_region_gg (n := 7) [Fg.eq (.pointer (some ⟨fb, 0, none⟩)), Fg.eq (.pointer (some ⟨fb, 0, none⟩)), Fg.eq (.agg #[.slice none 0 0, .int .i64 0, .int .i64 P, .int .i64 R, .bool false]), Fg.eq (.agg #[.int .i64 lo, .int .i64 hi, .int .i64 of, .int .i64 sl, .bool mk]), Fg.emptyI w0.heap.size, Fg.eq (.slice ta tape.length tc), Fg.ownI w0.heap.size tape] [61, 62, 63, 64, 65, 66, 67] (by kernel_rfl) (by kernel_rfl) (by kernel_rfl) ?_ ?_
  · intro L i o' ac w1 hi ho hA
    have hgr : Gr w0 w1 := (Gr.refl w0).drew.trans hA.gr
    match i, hi with
    | 0, _ =>
      obtain rfl := Option.some.inj ho
      exact gg_plain rfl (gstep_val (q_move rfl (show ac.eval (.tmp 10) = .pointer (some ⟨fb, 0, none⟩) from hA.other 10 (by decide))) rfl)
    | 1, _ =>
      obtain rfl := Option.some.inj ho
      exact gg_plain rfl (gstep_val (q_nil rfl (hA.fact 0 (hA.dep 0 (by kernel_rfl) (by decide)))) rfl)
    | 2, _ =>
      obtain rfl := Option.some.inj ho
      exact gg_plain rfl (gstep_val (q_loadFifo rfl (hA.fact 1 (hA.dep 1 (by kernel_rfl) (by decide))) (HF0.out.gr hgr)) rfl)
    | 3, _ =>
      obtain rfl := Option.some.inj ho
      exact gg_plain rfl (gstep_val (q_loadSetup rfl (show ac.eval (.tmp 4) = .pointer (some ⟨sb, 0, none⟩) from hA.other 4 (by decide)) (HS0.out.gr hgr)) rfl)
    | 4, _ =>
      obtain rfl := Option.some.inj ho
      exact gg_plain rfl (gstep_new (q_buildI0 rfl) ((Gr.refl _).alloc _) ⟨_, rfl, hgr.size, IntRow.empty rfl⟩)
    | 5, _ =>
      obtain rfl := Option.some.inj ho
      exact gg_plain rfl (gstep_val (q_move rfl (show ac.eval (.tmp 3) = .slice ta tape.length tc from hA.other 3 (by decide))) rfl)
    | 6, _ =>
      obtain rfl := Option.some.inj ho
      obtain ⟨g, hv, hg, hr⟩ := (show ∃ g, valOf _ ac 4 = .slice (some ⟨g, 0, none⟩) 0 0 ∧ w0.heap.size ≤ g ∧ IntRow w1 (valOf _ ac 4) [] from (hA.fact 4 (hA.dep 4 (by kernel_rfl) (by decide))))
      rw [hv] at hr
      obtain ⟨v', w', h1, h2, h3, h4⟩ := hr.app0 (HT0.out.gr hgr) (by have := HL.out; omega)
      exact gg_plain rfl (gstep_new (q_append rfl (show ac.eval (.tmp 65) = _ from hv) (hA.fact 5 (hA.dep 5 (by kernel_rfl) (by decide))) h1) h3 ⟨h2, fun k hk => (h4 k hk).elim (fun e => by cases e; exact hg) (Nat.le_trans hgr.size)⟩)
    | k + 7, hk => exact absurd (show k + 7 < 7 from hk) (by omega)
  · intro vs w5 hg5 hv
    have HGX := Lib.hid ((Gr.refl w0).drew.trans hg5)
    have v63 : vs 2 = .agg #[.slice none 0 0, .int .i64 0, .int .i64 P, .int .i64 R, .bool false] := hv 2 (by omega)
    have v64 : vs 3 = .agg #[.int .i64 lo, .int .i64 hi, .int .i64 of, .int .i64 sl, .bool mk] := hv 3 (by omega)
    have r67 : IntRow w5 (vs 6) tape ∧ ∀ g, (vs 6).ownBlock = some g → w0.heap.size ≤ g := hv 6 (by omega)
    clear hv hg5
    simp only [putN, List.drop_succ_cons, List.drop_zero, List.getElem?_cons_succ, List.getElem?_cons_zero]
    generalize vs 2 = z63 at *
    subst v63
    generalize vs 3 = z64 at *
    subst v64
    generalize vs 6 = z67 at *
    generalize vs 0 = z61 at *
    generalize vs 1 = z62 at *
    generalize vs 4 = z65 at *
    generalize vs 5 = z66 at *
    obtain ⟨hrow, hown⟩ := r67
    obtain ⟨ua, uc, rfl⟩ := IntRow.shape hrow
    have HROW := Lib.hid hrow
    have HOWN := Lib.hid hown
    clear hrow hown
    go_wp2
    have hsl : ((sl.toNat : Nat) : Int) = sl := Int.toNat_of_nonneg HSL.out.1
    have hg0 := HG0.out.trans HGX.out
    have hlt := fun g hg => Row.lt HROW.out (g := g) hg
    have hrw := HROW.out.gr ((Gr.refl w5).alloc (.cells #[.slice none 0 0, .int .i64 0, .int .i64 P, .int .i64 R, .bool false, .int .i64 lo, .int .i64 hi, .int .i64 of, .int .i64 sl, .bool mk, .slice ua tape.length uc, .int .i64 0, .int .i64 0] 125))
    refine bodyPost_ret (v := .tuple #[.pointer (some ⟨w5.heap.size, 0, none⟩), .nilIface]) (by simp [results, Tryd.results15, go_sem]) rfl ⟨_, rfl, .slice ua tape.length uc, ⟨⟨⟨by simp, by simp [sumLen], by simp, by simp, RowH.nil _ _⟩, by simp, by simp, by simp⟩, by simp, by simp, by simp, by simp [hsl], by simp, by simp, by simp, by simp, by simp, by simp, by simp, hrw.ints, fun g hg => ⟨Nat.ne_of_lt (hlt g hg), (fun e => by cases e), by have := hlt g hg; simp; omega⟩⟩, hg0.alloc _, hg0.size, fun g hg => Nat.le_trans HG0.out.size (HOWN.out g hg)⟩
end Go.Proofs.YtbpofdfehcbppaaDoor

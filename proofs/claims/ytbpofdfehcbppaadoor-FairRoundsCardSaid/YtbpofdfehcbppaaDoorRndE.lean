/-
  The program's Rounds as a side of a play.
-/
import Derived.Test.YtbpofdfehcbppaaDoorRndD
namespace Go.Proofs.YtbpofdfehcbppaaDoor
open Go.RowKit Go.Extern.Stop Go.Stop Go.Extern

structure RndI (N0 p : Nat) (q : RndP) (w : World) (b : RndV) (a : RndS) (n : Nat) : Prop where
  at_ : RndC w p q b
  sh : Shows b a
  ok : RndOk q a n
  lo : ∀ g, RFoot p b g → N0 ≤ g
def rndSide (N0 p : Nat) (q : RndP) : Side (rounds q) N0 RndV where
  I := RndI N0 p q
  F b := RFoot p b
  lo h hg := h.lo _ hg
  lt h hg := h.at_.flt hg
  sav h k hB := ⟨h.at_.sav k (fun g e => (hB g e).2), h.sh, h.ok, h.lo⟩
theorem Shows.puts {s s' : RndV} {a : RndS} {x : Hel} {k : Nat} (h : Shows s a) (hx : x.flow = (k : Int)) (hk : k < 16) (d : PutV s s' x k) : Shows s' (a.puts x) := by
  obtain ⟨d1, d2, d3, d4, d5, d6⟩ := d
  have hc : x.flow.toNat = k := by omega
  have hl := h.ls k hk
  refine ⟨fun j hj => ?_, ?_, by rw [d3]; exact h.begun, fun j hj => ?_, ?_, ?_⟩
  · rw [d1]
    show fu s.ls k (s.ls k ++ [x]) j = ofF (a.l ++ [x]) j
    rw [ofF_app, ofF_one, hx]
    by_cases e : j = k
    · rw [e, fu_at, if_pos rfl, hl]
    · rw [fu_ne _ _ e, if_neg (by omega), List.append_nil]; exact h.ls j hj
  · rw [d2, hl, h.turn]
    show _ = intL (if ofF a.l x.flow.toNat = [] then a.turn ++ [x.flow.toNat] else a.turn)
    rw [hc]
    split
    · exact (intL_app _ _).symm
    · rfl
  · rw [d4, hl]
    show _ = (if ofF a.l x.flow.toNat = [] then fu a.credit x.flow.toNat 0 else a.credit) j
    rw [hc]
    split
    · by_cases e : j = k
      · rw [e, fu_at, fu_at]
      · rw [fu_ne _ _ e, fu_ne _ _ e]; exact h.cr j hj
    · exact h.cr j hj
  · rw [d5, h.bytes]
    exact (sumLen_one a.l x).symm
  · rw [d6, h.many]
    show _ = ((a.l ++ [x]).length : Int)
    simp
section
variable {N0 p : Nat} {q : RndP} {w w' : World} {b : RndV} {a a' : RndS} {n n' : Nat}
theorem rnd_moved (h : RndI N0 p q w b a n) (d : RnDid w w' p q b a') (ok : RndOk q a' n') : ∃ b', (rndSide N0 p q).Moved w b w' b' a' n' := by
  obtain ⟨s', k, sh⟩ := d
  exact ⟨s', ⟨k.at_, sh, ok, fun g hg => (k.own g hg).1.elim (h.lo g) (fun e => Nat.le_trans (h.lo p (.inl rfl)) (Nat.le_trans (Nat.le_of_lt h.at_.lt) e))⟩, k.sav, fun g hg => (k.own g hg).1⟩
theorem RndI.rput (h : RndI N0 p q w b a n) {t : Int} {x : Hel} (g : GoodPut t x n) : RPut b x x.flow.toNat := by
  have h1 := h.ok.l.few
  have h2 := h.ok.l.n
  have h3 := h.ok.few
  have hf := g.flow
  have hk : x.flow.toNat < 16 := by omega
  have hl := h.sh.ls _ hk
  have h5 := ofF_len a.l x.flow.toNat
  have h4 := lens_tot (show Lens (ofF a.l x.flow.toNat) from fun z hz => h.ok.l.lens z (ofF_mem.1 hz).1)
  have h6 := lens_tot h.ok.l.lens
  refine ⟨by omega, hk, by have := g.len; omega, by rw [h.sh.turn, intL_len]; omega, by rw [hl]; omega, by rw [hl]; omega, by rw [h.sh.bytes]; omega, by rw [h.sh.many]; omega⟩
theorem rnd_put (h : RndI N0 p q w b a n) {now : Int} {x : Hel} (g : GoodPut now x n) :
    Calls Tryd.prog 108 #[.pointer (some ⟨p, 0, none⟩), .int .i64 now, x.val] w fun e w' => ∃ v b', e = .returned v ∧ RowH 139 w' v ((rounds q).put a now x).2 ∧ (rndSide N0 p q).Moved w b w' b' ((rounds q).put a now x).1 (n + 1) := by
  have hok := (rounds_put_ok h.ok g).1
  have po := h.rput g
  have hl := h.sh.ls _ po.lt
  by_cases hf : q.room ≤ ((ofF a.l x.flow.toNat).length : Int)
  · rw [rounds_full hf] at hok ⊢
    refine (rput_full p q b x _ po (by rw [hl]; exact hf) now w h.at_).mono ?_
    rintro e w' ⟨r, rfl, hr, hg⟩
    obtain ⟨b', hb⟩ := rnd_moved (a' := a) h ⟨b, (RM.first h.at_).gr hg, h.sh⟩ hok
    exact ⟨_, b', rfl, hr, hb⟩
  · rw [rounds_fits hf] at hok ⊢
    refine (rput_fits p q b x _ po (by rw [hl]; exact hf) now w h.at_).mono ?_
    rintro e w' ⟨rfl, s', hm, hv⟩
    obtain ⟨b', hb⟩ := rnd_moved (a' := a.puts x) h ⟨s', hm, h.sh.puts po.flow po.lt hv⟩ hok
    exact ⟨_, b', rfl, RowH.nil _ _, hb⟩
theorem rnd_take (hq : q.Ok) (h : RndI N0 p q w b a n) (now : Int) :
    Calls Tryd.prog 109 #[.pointer (some ⟨p, 0, none⟩), .int .i64 now] w fun e w' => ∃ v b', e = .returned (.tuple #[((rounds q).take a now).2.1.val, v, .bool ((rounds q).take a now).2.2.2]) ∧ RowH 139 w' v ((rounds q).take a now).2.2.1 ∧ (rndSide N0 p q).Moved w b w' b' ((rounds q).take a now).1 n := by
  have hok := rounds_take_ok hq (t := now) h.ok
  refine (rtake_any p q hq b a n h.ok h.sh now w h.at_).mono ?_
  rintro e w' ⟨rfl, d⟩
  obtain ⟨b', hb⟩ := rnd_moved h d hok.1
  exact ⟨_, b', rfl, by rw [hok.2]; exact RowH.nil _ _, hb⟩
end
set_option maxRecDepth 100000 in
theorem rndlen_any (p : Nat) (m : Int) (w : World) (h : w.cell? ⟨p, 68, none⟩ = some (.int .i64 m)) : Calls Tryd.prog 107 #[.pointer (some ⟨p, 0, none⟩)] w fun e w' => e = .returned (.int .i64 m) ∧ Gr w w' := by
  go_enter Tryd.func107, Tryd.ntmps107
  go_wp2
  go_ret
  exact ⟨rfl, Gr.refl _⟩
set_option maxRecDepth 100000 in
theorem rndbytes_any (p : Nat) (m : Int) (w : World) (h : w.cell? ⟨p, 67, none⟩ = some (.int .i64 m)) : Calls Tryd.prog 106 #[.pointer (some ⟨p, 0, none⟩)] w fun e w' => e = .returned (.int .i64 m) ∧ Gr w w' := by
  go_enter Tryd.func106, Tryd.ntmps106
  go_wp2
  go_ret
  exact ⟨rfl, Gr.refl _⟩
set_option maxRecDepth 100000 in
theorem rndwhen_any (p : Nat) (m now : Int) (w : World) (h : w.cell? ⟨p, 68, none⟩ = some (.int .i64 m)) : Calls Tryd.prog 110 #[.pointer (some ⟨p, 0, none⟩), .int .i64 now] w fun e w' => e = .returned (.tuple #[.int .i64 now, .bool (decide (0 < m))]) ∧ Gr w w' := by
  go_enter Tryd.func110, Tryd.ntmps110
  go_upto_region 1 with fail
  go_quiet (fail)
  go_wp2
  all_goals
    exact bodyPost_ret (v := .tuple #[.int .i64 now, .bool (decide (0 < m))]) (by simp [results, Tryd.results110, go_sem]) rfl ⟨rfl, (Gr.refl _).drewN _⟩
set_option maxRecDepth 100000 in
theorem rndcredit_any (p : Nat) (q : RndP) (s : RndV) (k : Nat) (hk : k < 16) (w : World) (h : RndC w p q s) : Calls Tryd.prog 23 #[.pointer (some ⟨p, 0, none⟩), .int .i64 (k : Int)] w fun e w' => e = .returned (.int .i64 (s.cr k)) ∧ w = w' := by
  have i0 : ¬ (k : Int) < 0 := by omega
  have i1 : ¬ (16 : Int) ≤ (k : Int) := by omega
  have i2 : (0 : Int) ≤ (k : Int) := by omega
  have i3 : (k : Int) < 16 := by omega
  have c := h.cred hk
  clear h
  go_enter Tryd.func23, Tryd.ntmps23
  go_wp2
  all_goals first
    | (exfalso; omega)
    | (go_ret; exact ⟨rfl, rfl⟩)
set_option maxRecDepth 100000 in
theorem rndcredit_off (p : Nat) (i : Int) (hi : i < 0 ∨ 16 ≤ i) (w : World) : Calls Tryd.prog 23 #[.pointer (some ⟨p, 0, none⟩), .int .i64 i] w fun e w' => e = .returned (.int .i64 0) ∧ w = w' := by
  rcases hi with hi | hi
  all_goals
    go_enter Tryd.func23, Tryd.ntmps23
    go_wp2
    all_goals first
      | (exfalso; omega)
      | (go_ret; exact ⟨rfl, rfl⟩)
theorem rnd_pside {N0 p : Nat} {q : RndP} (hq : q.Ok) : PSide (rndSide N0 p q) (.iface 77 (.pointer (some ⟨p, 0, none⟩))) where
  put := ⟨_, _, (fun args w => by kernel_rfl : Meth _ "Put" 108 (.pointer (some ⟨p, 0, none⟩))), fun w b a n now x h g => rnd_put h g⟩
  take := ⟨_, _, (fun args w => by kernel_rfl : Meth _ "Take" 109 (.pointer (some ⟨p, 0, none⟩))), fun w b a n now h _ => rnd_take hq h now⟩
  when_ := ⟨_, _, (fun args w => by kernel_rfl : Meth _ "When" 110 (.pointer (some ⟨p, 0, none⟩))), fun w b a n now h _ => (rndwhen_any p _ now w h.at_.c68).mono fun e w' ⟨h1, h2⟩ => ⟨b, by rw [h1, h.sh.many]; simp [rounds], .of_gr _ h h2⟩⟩
  few {w b a n} h := ⟨(show a.l.length ≤ 1000 from by have := h.ok.l.few; have := h.ok.l.n; omega), h.ok.l.lens⟩
  fewPut h g := (rounds_put_ok h.ok g).2
  fewTake h _ := by rw [(rounds_take_ok hq h.ok).2]; exact Nat.zero_le _
  len := ⟨_, _, (fun args w => by kernel_rfl : Meth _ "Len" 107 (.pointer (some ⟨p, 0, none⟩))), fun w b a n h => (rndlen_any p _ w h.at_.c68).mono fun e w' ⟨h1, h2⟩ => ⟨by rw [h1, h.sh.many]; rfl, h2⟩⟩
  bytes := ⟨_, _, (fun args w => by kernel_rfl : Meth _ "Bytes" 106 (.pointer (some ⟨p, 0, none⟩))), fun w b a n h => (rndbytes_any p _ w h.at_.c67).mono fun e w' ⟨h1, h2⟩ => ⟨by rw [h1, h.sh.bytes]; rfl, h2⟩⟩
end Go.Proofs.YtbpofdfehcbppaaDoor

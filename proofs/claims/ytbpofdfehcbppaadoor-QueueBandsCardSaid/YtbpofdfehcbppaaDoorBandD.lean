/-
  Rows of queues (interface values); queue.NewBands.
-/
import Derived.Test.YtbpofdfehcbppaaDoorBandC
import Derived.Test.YtbpofdfehcbppaaDoorFifoW
import Derived.BigGuardPart
namespace Go.Proofs.YtbpofdfehcbppaaDoor
open Go.RowKit Go.Extern.Stop Go.Stop Go.Extern

def isQ (u : Value) : Prop := u = .nilIface ∨ ∃ t v, u = .iface t v
/-- A slice of interface values of the call's own. -/
def RowQ (E : TypeId) (w : World) (v : Value) (qs : List Value) : Prop := Row E 1 isQ w v qs.length qs
theorem notQ_int {k : IntKind} {n : Int} : ¬ isQ (.int k n) := fun h => h.elim (fun e => by cases e) (fun ⟨_, _, e⟩ => by cases e)
theorem notQ_slice {a : Option Addr} {n c : Nat} : ¬ isQ (.slice a n c) := fun h => h.elim (fun e => by cases e) (fun ⟨_, _, e⟩ => by cases e)
section
variable {E : TypeId} {w w' : World} {v : Value} {qs : List Value}
theorem RowQ.nil (E : TypeId) (w : World) : RowQ E w (.slice none 0 0) [] := Row.nil _ _ _ w
theorem RowQ.shape (h : RowQ E w v qs) : ∃ a cap, v = .slice a qs.length cap := Row.shape h
theorem RowQ.gr (h : RowQ E w v qs) (k : Gr w w') : RowQ E w' v qs := Row.gr h k
theorem RowQ.sav {B : Nat → Prop} (h : RowQ E w v qs) (k : Sav B w w') (hv : ∀ g, v.ownBlock = some g → ¬ B g) : RowQ E w' v qs := Row.sav h k hv
theorem RowQ.lt (h : RowQ E w v qs) {g : Nat} (hg : v.ownBlock = some g) : g < w.heap.size := Row.lt h hg
theorem RowQ.ne (h : RowQ E w v qs) {q i : Nat} {u : Value} (hc : w.cell? ⟨q, i, none⟩ = some u) (hu : ¬ isQ u) : v.ownBlock ≠ some q := Row.ne h hc hu
theorem RowQ.cells (h : RowQ E w v qs) (h0 : 0 < qs.length) : ∃ g off cap, v = .slice (some ⟨g, off, none⟩) qs.length cap ∧ qs.length ≤ cap ∧ ∀ j u, qs[j]? = some u → w.cell? ⟨g, off + j, none⟩ = some u := by
  obtain ⟨g, off, cap, h1, h2, _, h3⟩ := Row.cells h h0
  exact ⟨g, off, cap, h1, h2, h3⟩
theorem RowQ.any (h : RowQ E w v qs) : ∃ a cap, v = .slice a qs.length cap ∧ qs.length ≤ cap ∧ Hid (0 < qs.length → ∃ g off, a = some ⟨g, off, none⟩ ∧ ∀ j u, qs[j]? = some u → w.cell? ⟨g, off + j, none⟩ = some u) := by
  rcases h.2 with ⟨rfl, h0⟩ | ⟨g, off, cap, cur, rfl, h1, h2, h3, h4, h5, h6⟩
  · exact ⟨none, 0, by rw [h0], by omega, fun h => absurd h (by omega)⟩
  · refine ⟨_, cap, rfl, h2, fun _ => ⟨g, off, rfl, fun j u hu => ?_⟩⟩
    have hj : j < qs.length := (List.getElem?_eq_some_iff.1 hu).1
    rw [cell_of_row w g (off + j) cur E (0, 0) h1, h6 j (by omega)]
    exact hu
theorem RowQ.isQ (h : RowQ E w v qs) : ∀ u ∈ qs, isQ u := by
  intro u hu
  obtain ⟨j, hj, rfl⟩ := List.mem_iff_getElem.1 hu
  rcases h.2 with ⟨_, h0⟩ | ⟨g, off, cap, cur, _, h1, h2, h3, h4, h5, h6⟩
  · omega
  · have := h6 j (by omega)
    rw [List.getElem?_eq_getElem hj] at this
    exact h5 _ _ this
/-- Two rows of other kinds lie apart. -/
theorem RowQ.apart {E' : TypeId} {v' : Value} {qs' : List Value} (h : RowQ E w v qs) (h' : RowQ E' w v' qs') (hne : E ≠ E') {g : Nat} (hg : v.ownBlock = some g) : v'.ownBlock ≠ some g := by
  intro e
  rcases h.2 with ⟨rfl, _⟩ | ⟨g1, off, cap, cur, rfl, h1, _⟩
  · cases hg
  · rcases h'.2 with ⟨rfl, _⟩ | ⟨g2, off2, cap2, cur2, rfl, h2, _⟩
    · cases e
    · cases hg
      cases e
      rw [h1] at h2
      injection h2 with h3
      injection h3 with _ h4
      exact hne h4
theorem RowQ.empty {n : Nat} (hn : n = w.heap.size) : RowQ E (w.alloc (.cells #[] E)) (.slice (some ⟨n, 0, none⟩) 0 0) [] := by
  subst hn
  exact ⟨rfl, .inr ⟨w.heap.size, 0, 0, #[], rfl, heap_alloc_new w _, Nat.le_refl _, by decide, by simp, fun i u h => by simp at h, fun j hj => by simp at hj⟩⟩
end
theorem qInfo : (Tryd.prog.info? 98).map (fun i => (i.zero, i.size, i.bytes)) = some (some .nilIface, 1, 16) := by kernel_rfl
theorem rqInfo : (Tryd.prog.info? 100).map (fun i => (i.zero, i.size, i.bytes)) = some (some .nilIface, 1, 16) := by kernel_rfl
/-- append of queues. -/
theorem wpList_append_q {P : Program} {E : TypeId} {w : World} {v : Value} {xs ys : List Value} {ops : Array Oper} {rest : List Oper} {o : Oper} {a : Act} {Q : Exit → Act → World → Prop} (hgd : o.guard = none) (s x : Operand) (t : TypeId)
    (ho : o.op = .call { callee := .builtin .append, args := #[s, x], argTypes := #[t, t] }) (i : TypeInfo) (ht : P.underlying t = some (.slice E)) (hi : P.info? E = some i) (hz : i.zero = some .nilIface) (hsize : i.size = 1) (hby : i.bytes = 16)
    (hs : a.eval s = v) (h : RowQ E w v xs) (ad : Addr) (c m : Nat) (hm : m = ys.length) (hx : a.eval x = .slice (some ad) m c) (hnews : ∀ j u, ys[j]? = some u → w.cell? (ad.add j) = some u) (hq : ∀ u ∈ ys, isQ u) (hn : xs.length + ys.length ≤ 1000000)
    (hK : ∀ v' w', RowQ E w' v' (xs ++ ys) → w.grownBy w' v.ownBlock → (∀ g, v'.ownBlock = some g → v.ownBlock = some g ∨ w.heap.size ≤ g) → wpList P ops Q rest (a.put o.dst v') w') : wpList P ops Q (o :: rest) a w := by
  subst hm
  cases ys with
  | nil =>
    obtain ⟨va, vc, hv, hvc, _⟩ := h.any
    subst hv
    have hr := run_append_empty (P := P) (w := w) t o.type E i ht hi va (some ad) xs.length vc c hvc
    refine wpList_plain hgd fun _ hK' => ?_
    unfold Oper.wp
    simp [execOp, ho, resolve, invoke, builtin, hs, hx, hr, Result.andThen]
    exact hK' _ _ (hK _ _ (by rw [List.append_nil]; exact h) ⟨rfl, rfl, rfl, Nat.le_refl _, fun _ _ _ => rfl⟩ (fun g hg => .inl hg))
  | cons y ys =>
    obtain ⟨v', w', h1, h2, h3, h4, h5⟩ := Row.appendN (P := P) t o.type i .nilIface 16 ht hi hz hsize hby rfl (fun u hu => by simp [Value.cells] at hu; exact .inl hu) h ad c (y :: ys).length (by simp) (y :: ys) (by simp) hnews (fun u hu => by rcases hq u hu with rfl | ⟨_, _, rfl⟩ <;> rfl) hq hn (by decide)
    refine wpList_plain hgd fun _ hK' => ?_
    unfold Oper.wp
    simp only [List.length_cons] at h1 hx
    simp [execOp, ho, resolve, invoke, builtin, hs, hx, h1, Result.andThen]
    exact hK' _ _ (hK v' w' (by unfold RowQ; rw [List.length_append]; exact h2) h3 h4)
/-- the first that is nil, from i on -/
def nilAt : List Value → Nat → Int
  | [], _ => -1
  | .nilIface :: _, i => (i : Int)
  | _ :: r, i => nilAt r (i + 1)
theorem nilAt_no {t : TypeId} {v : Value} {r : List Value} {i : Nat} : nilAt (.iface t v :: r) i = nilAt r (i + 1) := rfl
theorem nilAt_all {qs : List Value} (h : ∀ u ∈ qs, ∃ t v, u = .iface t v) : ∀ i, nilAt qs i = -1 := by
  induction qs with
  | nil => intro i; rfl
  | cons u r ih =>
    intro i
    obtain ⟨t, v, rfl⟩ := h u (List.mem_cons_self ..)
    rw [nilAt_no]
    exact ih (fun x hx => h x (List.mem_cons_of_mem _ hx)) _
theorem nilAt_last {qs : List Value} (h : ∀ u ∈ qs, ∃ t v, u = .iface t v) : ∀ i, nilAt (qs ++ [.nilIface]) i = ((i + qs.length : Nat) : Int) := by
  induction qs with
  | nil => intro i; rfl
  | cons u r ih =>
    intro i
    obtain ⟨t, v, rfl⟩ := h u (List.mem_cons_self ..)
    rw [List.cons_append, nilAt_no, ih (fun x hx => h x (List.mem_cons_of_mem _ hx))]
    simp
    omega
theorem isnil_yes (w : World) : Calls Tryd.prog 37 #[.nilIface] w fun e w' => e = .returned (.bool true) ∧ w = w' := by
  go_enter Tryd.func37, Tryd.ntmps37
  go_wp2
  go_ret
  exact ⟨rfl, rfl⟩
theorem isnil_no (t : TypeId) (v : Value) (w : World) : Calls Tryd.prog 37 #[.iface t v] w fun e w' => e = .returned (.bool false) ∧ w = w' := by
  go_enter Tryd.func37, Tryd.ntmps37
  go_wp2
  go_ret
  exact ⟨rfl, rfl⟩
set_option maxHeartbeats 1000000 in
theorem qindex_any (v : Value) (qs : List Value) (w : World) (h : RowQ 98 w v qs) (hn : qs.length ≤ 1000) :
    Calls Tryd.prog 43 #[v, .func (.func 37) #[] #[]] w fun e w' => e = .returned (.int .i64 (nilAt qs 0)) ∧ w = w' := by
  obtain ⟨a, cap, rfl, _, HC⟩ := h.any
  have HQ := Lib.hid h.isQ
  clear h
  go_enter Tryd.func43, Tryd.ntmps43
  go_wp2
  go_loop [8] (fun s8 => ∃ (i : Nat) (d r : List Value), s8 = .int .i64 (i : Int) ∧ d.length = i ∧ Hid (qs = d ++ r) ∧ Hid (nilAt qs 0 = nilAt r i)) (fun s => qs.length - (intOf s).toNat)
  case atStart => exact ⟨0, [], qs, rfl, rfl, Lib.hid rfl, Lib.hid rfl⟩
  case round =>
    obtain ⟨i, d, r, rfl, hd, HEQ, HNI⟩ := hrel
    have HD := Lib.hid hd
    clear hd
    cases r with
    | nil =>
      have hnlt : ¬ (i : Int) < (qs.length : Int) := by have h1 := HEQ.out; have h2 := HD.out; rw [h1]; simp; omega
      go_wp2
      go_ret
      rw [HNI.out]
      exact ⟨rfl, rfl⟩
    | cons u r' =>
      have hil : i < qs.length := by have h1 := HEQ.out; have h2 := HD.out; rw [h1]; simp; omega
      have i0 : (0 : Int) ≤ (i : Int) := by omega
      have i1 : (i : Int) < (qs.length : Int) := by omega
      have HG := Lib.hid (show qs[i]? = some u from by rw [HEQ.out]; exact get_mid HD.out)
      obtain ⟨g, off, rfl, hcell⟩ := HC.out (by omega)
      have c0 := hcell i u HG.out
      clear hcell
      rcases HQ.out u (List.mem_of_getElem? HG.out) with rfl | ⟨t, x, rfl⟩
      · go_wp2_with (go_at_call 37; refine (isnil_yes _).mono ?_; rintro e w1 ⟨rfl, rfl⟩)
        go_ret
        rw [HNI.out]
        exact ⟨rfl, rfl⟩
      · go_wp2_with (go_at_call 37; refine (isnil_no t x _).mono ?_; rintro e w1 ⟨rfl, rfl⟩)
        go_round
        case rel => exact ⟨i + 1, d ++ [.iface t x], r', by go_num, by have := HD.out; simp; omega, Lib.hid (by rw [HEQ.out]; simp), Lib.hid (by rw [HNI.out, nilAt_no])⟩
        case measure => simp [intOf]; omega
theorem qcontains_any (v : Value) (qs : List Value) (w : World) (h : RowQ 98 w v qs) (hn : qs.length ≤ 1000) :
    Calls Tryd.prog 36 #[v, .func (.func 37) #[] #[]] w fun e w' => e = .returned (.bool (decide (0 ≤ nilAt qs 0))) ∧ w = w' := by
  have HC := Lib.hid (qindex_any v qs w h hn)
  clear h
  go_enter Tryd.func36, Tryd.ntmps36
  go_wp2_with (go_at_call 43; ((with_reducible refine HC.out.mono ?_); rintro e w1 ⟨rfl, rfl⟩))
  go_ret
  exact ⟨rfl, rfl⟩
theorem qsl_no_nil (ad : Addr) (n c : Nat) (w : World) : (binOp .eql 43 (.slice (some ad) n c) (.slice none 0 0)).run Tryd.prog w = .ok (.bool false) w := by kernel_rfl
set_option maxRecDepth 100000 in
set_option maxHeartbeats 4000000 in
/-- slices.Clone of queues. -/
theorem qclone_any (v : Value) (qs : List Value) (w : World) (h : RowQ 98 w v qs) (h0 : 0 < qs.length) (hn : qs.length ≤ 1000) : Calls Tryd.prog 38 #[v] w fun e w' => ∃ v', e = .returned v' ∧ RowQ 98 w' v' qs ∧ Gr w w' ∧ ∀ g, v'.ownBlock = some g → w.heap.size ≤ g := by
  have HC := Lib.hid (fun u (k : Gr w u) => (RowQ.gr h k).cells h0)
  have HQ := Lib.hid h.isQ
  obtain ⟨g, off, cap, rfl, _, hcell⟩ := h.cells h0
  have HCL := Lib.hid hcell
  have HN := Lib.hid hn
  clear h hcell hn
  obtain ⟨i0, hi0, hz0, hz1, hz2⟩ := info_parts qInfo
  have hnl := qsl_no_nil ⟨g, off, none⟩ qs.length cap w
  have HE := Lib.hid (RowQ.empty (E := 98) (w := w) rfl)
  go_enter Tryd.func38, Tryd.ntmps38
  go_wp2_with (at_builtin; refine wpList_append_q rfl _ _ _ (by rfl) i0 Tryd.underlying43 hi0 hz0 hz1 hz2 (by rfl) HE.out ⟨g, off, none⟩ cap qs.length rfl (by rfl) ?c1 HQ.out ?c2 ?_; (case c1 => (intro j u hu; rw [Addr.add_lit]; exact ((Gr.refl w).alloc _).cell (HCL.out j u hu))); (case c2 => (have := HN.out; simp; omega)); intro v' w' hrow hgr hown; have HROW := Lib.hid hrow; have HGR := Lib.hid hgr; have HOWN := Lib.hid hown; clear hrow hgr hown)
  go_ret
  refine ⟨_, rfl, by simpa using HROW.out, ((Gr.refl w).alloc _).grown HGR.out (fun k hk => by simp [Value.ownBlock] at hk; omega), fun g hg => ?_⟩
  rcases HOWN.out g hg with h | h
  · simp [Value.ownBlock] at h; omega
  · simp at h; omega
theorem newbands_few (v : Value) (qs : List Value) (w : World) (hv : ∃ a c, v = .slice a qs.length c) (h : qs.length < 1 ∨ 8 < qs.length) :
    Calls Tryd.prog 13 #[v] w fun e w' => e = .returned (.tuple #[.pointer none, .iface 23 (.int .i64 4)]) ∧ w = w' := by
  obtain ⟨a, c, rfl⟩ := hv
  rcases h with h | h
  all_goals
    go_enter Tryd.func13, Tryd.ntmps13
    go_wp2
    all_goals first
      | (exfalso; omega)
      | (go_ret2; exact ⟨rfl, rfl⟩)
theorem newbands_nil (v : Value) (qs : List Value) (w : World) (h : RowQ 98 w v qs) (hn : 1 ≤ qs.length ∧ qs.length ≤ 8) (h0 : 0 ≤ nilAt qs 0) :
    Calls Tryd.prog 13 #[v] w fun e w' => e = .returned (.tuple #[.pointer none, .iface 23 (.int .i64 7)]) ∧ w = w' := by
  have HC := Lib.hid (qcontains_any v qs w h (by omega))
  obtain ⟨a, c, rfl⟩ := h.shape
  obtain ⟨n1, n2⟩ := hn
  have H0 := Lib.hid (decide_eq_true h0)
  rw [H0.out] at HC
  clear h h0
  go_enter Tryd.func13, Tryd.ntmps13
  go_wp2_with (go_at_call 36; refine HC.out.mono ?_; rintro e w1 ⟨rfl, rfl⟩)
  all_goals first
    | (exfalso; omega)
    | (go_ret2; exact ⟨rfl, rfl⟩)
/-- What NewBands leaves. -/
def NewB (w : World) (qs : List Value) (e : Ending) (w' : World) : Prop := ∃ p u, e = .returned (.tuple #[.pointer (some ⟨p, 0, none⟩), .nilIface]) ∧ w'.cell? ⟨p, 0, none⟩ = some u ∧ RowQ 98 w' u qs ∧ Gr w w' ∧ w.heap.size ≤ p ∧ ∀ g, u.ownBlock = some g → w.heap.size ≤ g
set_option maxHeartbeats 1000000 in
theorem newbands_ok (v : Value) (qs : List Value) (w : World) (h : RowQ 98 w v qs) (hn : 1 ≤ qs.length ∧ qs.length ≤ 8) (hq : ∀ u ∈ qs, ∃ t v, u = .iface t v) :
    Calls Tryd.prog 13 #[v] w (NewB w qs) := by
  have HC := Lib.hid (qcontains_any v qs w h (by omega))
  have HD := Lib.hid (qclone_any v qs w h (by omega) (by omega))
  obtain ⟨a, c, rfl⟩ := h.shape
  obtain ⟨n1, n2⟩ := hn
  rw [nilAt_all hq, decide_eq_false (by decide)] at HC
  clear h
  go_enter Tryd.func13, Tryd.ntmps13
  go_wp2_with (first
    | (go_at_call 36; refine HC.out.mono ?_; rintro e w1 ⟨rfl, rfl⟩)
    | (go_at_call 38; refine HD.out.mono ?_; rintro e w1 ⟨v', rfl, hrow, hg, hown⟩; obtain ⟨ua, uc, rfl⟩ := hrow.shape; have HROW := Lib.hid hrow; have HG := Lib.hid hg; have HOWN := Lib.hid hown; clear hrow hg hown))
  all_goals first
    | (exfalso; omega)
    | (refine bodyPost_ret (v := .tuple #[.pointer (some ⟨w1.heap.size, 0, none⟩), .nilIface]) (by simp [results, Tryd.results13, go_sem]) rfl ?_; exact ⟨_, _, rfl, by simp, HROW.out.gr ((Gr.refl _).alloc _), HG.out.alloc _, HG.out.size, HOWN.out⟩)
end Go.Proofs.YtbpofdfehcbppaaDoor

/-
  item.line, walked.
-/
import Derived.Test.YtofhmbbodoedjaaDoorIpG
import Derived.Test.YtofhmbbodoedjaaDoorIpR
import Derived.Test.YtofhmbbodoedjaaDoorReg
namespace Go.Proofs.YtofhmbbodoedjaaDoor
open Go Go.RowKit Go.Shelf
attribute [local go_sem] Oper.semAt_some

theorem IntRow.app {w : World} {v : Value} {xs : List Int} {g c : Nat} {y : Int} (h : IntRow w v xs) (hg : w.cell? ⟨g, 0, none⟩ = some (.int .i64 y)) (hn : xs.length ≤ 999999) :
    ∃ v' w', (Builtin.append_ #[61, 61] 61 #[v, .slice (some ⟨g, 0, none⟩) 1 c]).run Tryd.prog w = .ok v' w' ∧ IntRow w' v' (xs ++ [y]) ∧ w.grownBy w' v.ownBlock ∧ (∀ g, v'.ownBlock = some g → v.ownBlock = some g ∨ w.heap.size ≤ g) ∧ IntRow w' v xs := by
  obtain ⟨i0, hi, hz0, hz1, hz2⟩ := info_parts info_intE
  obtain ⟨v', w', h1, h2, h3, h4, h5⟩ := Row.appendN (P := Tryd.prog) 61 61 i0 (.int .i64 0) 8 Tryd.underlying61 hi hz0 hz1 hz2 rfl (by intro u hu; simp [Value.cells] at hu; exact ⟨_, hu⟩) h ⟨g, 0, none⟩ c 1 (by omega) [.int .i64 y] rfl (by intro j u hu; match j, hu with | 0, hu => (rw [← Option.some.inj hu]; exact hg) | j + 1, hu => simp at hu) (by intro u hu; simp at hu; subst hu; rfl) (by intro u hu; simp at hu; exact ⟨_, hu⟩) (by omega) (by decide)
  exact ⟨v', w', h1, by unfold IntRow; simpa using h2, h3, h4, h5⟩
/-- The iterator, made. -/
def seqW (s c : ByteArray) (w : World) : World := ((w.alloc (.cells #[.string s] 9)).alloc (.cells #[.string c] 9)).alloc (.cells #[.int .i64 0] 3)
set_option maxRecDepth 100000 in
set_option maxHeartbeats 2000000 in
theorem splitSeq_any (s c : ByteArray) (w : World) : Calls Tryd.prog 21 #[.string s, .string c, .int .i64 0] w fun e w' => e = .returned (.func (.func 33) #[] #[.pointer (some ⟨w.heap.size + 1, 0, none⟩), .pointer (some ⟨w.heap.size, 0, none⟩), .pointer (some ⟨w.heap.size + 2, 0, none⟩)]) ∧ w' = seqW s c w := by
  unfold seqW
  go_enter Tryd.func21, Tryd.ntmps21
  go_wp2
  go_ret
  exact ⟨rfl, rfl⟩
set_option maxRecDepth 100000 in
set_option maxHeartbeats 2000000 in
theorem SplitSeq_any (s c : ByteArray) (w : World) : Calls Tryd.prog 12 #[.string s, .string c] w fun e w' => e = .returned (.func (.func 33) #[] #[.pointer (some ⟨w.heap.size + 1, 0, none⟩), .pointer (some ⟨w.heap.size, 0, none⟩), .pointer (some ⟨w.heap.size + 2, 0, none⟩)]) ∧ w' = seqW s c w := by
  go_enter Tryd.func12, Tryd.ntmps12
  go_wp2_with (go_at_call 21; refine (splitSeq_any s c _).mono ?_; rintro e w2 ⟨rfl, hww⟩; have HW := Lib.hid hww; clear hww)
  go_ret
  exact ⟨rfl, HW.out⟩
theorem seqW_size (s c : ByteArray) (w : World) : (seqW s c w).heap.size = w.heap.size + 3 := by unfold seqW; simp
theorem seqW_gr (s c : ByteArray) (w : World) : Gr w (seqW s c w) := (((Gr.refl w).alloc _).alloc _).alloc _
theorem seqW_s (s c : ByteArray) (w : World) : Bx (seqW s c w) w.heap.size (.string s) 9 := ((Bx.new w _ _).gr ((Gr.refl _).alloc _)).gr ((Gr.refl _).alloc _)
theorem seqW_p (s c : ByteArray) (w : World) : Bx (seqW s c w) (w.heap.size + 1) (.string c) 9 := by
  have := (Bx.new (w.alloc (.cells #[.string s] 9)) (.string c) 9).gr ((Gr.refl _).alloc (.cells #[.int .i64 0] 3))
  rwa [World.size_alloc] at this
theorem seqW_v (s c : ByteArray) (w : World) : Bx (seqW s c w) (w.heap.size + 2) (.int .i64 0) 3 := by
  have := Bx.new ((w.alloc (.cells #[.string s] 9)).alloc (.cells #[.string c] 9)) (.int .i64 0) 3
  rwa [World.size_alloc, World.size_alloc] at this
section
variable {ev : Operand → Value} {o : Oper} {w : World} {x y : Operand} {u : Value}
theorem h_load {ad : Addr} {a : Option Addr} {n c : Nat} (ho : o.op = .load 61 x) (h : ev x = .pointer (some ad)) (hc : w.cell? ad = some (.slice a n c)) : (execOp ev o).run Tryd.prog w = .ok (.value (.slice a n c)) w := by simp [execOp, ho, h, hc, go_sem]
theorem h_idx {g off n c k : Nat} (ho : o.op = .indexAddr 61 x y) (h : ev x = .slice (some ⟨g, off, none⟩) n c) (hk : ev y = .int .i64 (k : Int)) (hi : k < n) : (execOp ev o).run Tryd.prog w = .ok (.value (.pointer (some ⟨g, off + k, none⟩))) w := by
  have h0 : (0 : Int) ≤ (k : Int) := by omega
  have h1 : (k : Int) < (n : Int) := by omega
  simp [execOp, ho, h, hk, h0, h1, go_sem]
theorem h_loadI {ad : Addr} {n : Int} (ho : o.op = .load 3 x) (h : ev x = .pointer (some ad)) (hc : w.cell? ad = some (.int .i64 n)) : (execOp ev o).run Tryd.prog w = .ok (.value (.int .i64 n)) w := by simp [execOp, ho, h, hc, go_sem]
theorem h_build {x0 x1 x2 x3 x4 : Operand} {a b c d e : Int} (ho : o.op = .build 42 #[(0, x0), (1, x1), (2, x2), (3, x3), (4, x4)]) (h0 : ev x0 = .int .i64 a) (h1 : ev x1 = .int .i64 b) (h2 : ev x2 = .int .i64 c) (h3 : ev x3 = .int .i64 d) (h4 : ev x4 = .int .i64 e) :
    (execOp ev o).run Tryd.prog w = .ok (.value (.agg #[.int .i64 a, .int .i64 b, .int .i64 c, .int .i64 d, .int .i64 e])) w := by simp [execOp, ho, h0, h1, h2, h3, h4, go_sem]
end
theorem zero_set {w : World} {b : Nat} {ty : TypeId} (h : w.heap[b]? = some (.cells #[.int .i64 0, .int .i64 0, .int .i64 0, .int .i64 0, .int .i64 0] ty (0, 0))) :
    (((((w.setCell ⟨b, 0, none⟩ (.int .i64 0)).setCell ⟨b, 1, none⟩ (.int .i64 0)).setCell ⟨b, 2, none⟩ (.int .i64 0)).setCell ⟨b, 3, none⟩ (.int .i64 0)).setCell ⟨b, 4, none⟩ (.int .i64 0)).heap[b]? = some (.cells #[.int .i64 0, .int .i64 0, .int .i64 0, .int .i64 0, .int .i64 0] ty (0, 0)) := by
  simp [World.setCell, Array.getElem?_modify, h]
theorem zero_at {w : World} {b : Nat} {ty : TypeId} (h : w.heap[b]? = some (.cells #[.int .i64 0, .int .i64 0, .int .i64 0, .int .i64 0, .int .i64 0] ty (0, 0))) : w.cell? ⟨b, 0, none⟩ = some (.int .i64 0) ∧ w.cell? ⟨b, 1, none⟩ = some (.int .i64 0) ∧ w.cell? ⟨b, 2, none⟩ = some (.int .i64 0) ∧ w.cell? ⟨b, 3, none⟩ = some (.int .i64 0) ∧ w.cell? ⟨b, 4, none⟩ = some (.int .i64 0) ∧
    w.frozen? ⟨b, 0, none⟩ = false ∧ w.frozen? ⟨b, 1, none⟩ = false ∧ w.frozen? ⟨b, 2, none⟩ = false ∧ w.frozen? ⟨b, 3, none⟩ = false ∧ w.frozen? ⟨b, 4, none⟩ = false := by
  have hf : ∀ j, w.frozen? ⟨b, j, none⟩ = false := fun j => by unfold World.frozen?; simp [h]
  exact ⟨cell_of_row _ _ 0 _ _ _ h, cell_of_row _ _ 1 _ _ _ h, cell_of_row _ _ 2 _ _ _ h, cell_of_row _ _ 3 _ _ _ h, cell_of_row _ _ 4 _ _ _ h, hf 0, hf 1, hf 2, hf 3, hf 4⟩
theorem wpListIn_app {F : Fence} {m : Nat} {P : Program} {ops : Array Oper} {rest : List Oper} {o : Oper} {a : Act} {Q : Exit → Act → World → Prop} {w w' : World} {v v2 v' : Value} (hg : o.guard = none) (s x : Operand) (t : TypeId) (hop : o.op = Op.call { callee := Callee.builtin Builtin.append, args := #[s, x], argTypes := #[t, t] })
    (hs : a.eval s = v) (hx : a.eval x = v2) (hr : (Builtin.append_ #[t, t] o.type #[v, v2]).run P w = .ok v' w') (hK : wpListIn F m P ops Q rest (a.put o.dst v') w') : wpListIn F m P ops Q (o :: rest) a w := by
  refine wpListIn_plain hg fun K hK' => ?_
  unfold Oper.wpIn
  refine ⟨?_, ?_⟩
  · simp [Oper.about, hop, resolve, Target.leads, Sem.run_pure]
  · rw [Oper.semAt_plain F _ _ (by rw [hop]; intro c hc'; cases hc')]
    simp [execOp, hop, resolve, invoke, builtin, hs, hx, hr, Result.andThen]
    exact hK' _ _ hK
/-- Between two words. -/
structure LnI (s : ByteArray) (w : World) (b : Nat) (L : List ByteArray) (W : World) (ns : List Int) (v : Value) : Prop where
  sp : (pcs kBlank s).map numR = ns.map some ++ L.map numR
  suf : ∃ pre, pcs kBlank s = pre ++ L
  it : W.heap[b]? = some (.cells #[.int .i64 0, .int .i64 0, .int .i64 0, .int .i64 0, .int .i64 0] 42 (0, 0))
  er : Bx W (b + 1) .nilIface 29
  bx : Bx W (b + 1 + 1) v 61
  row : IntRow W v ns
  own : ∀ g, v.ownBlock = some g → b + 7 < g
  gr : Gr w W
/-- A word that is no number has come. -/
structure LnX (s : ByteArray) (w : World) (b : Nat) (W : World) : Prop where
  no : lineR s = none
  it : W.heap[b]? = some (.cells #[.int .i64 0, .int .i64 0, .int .i64 0, .int .i64 0, .int .i64 0] 42 (0, 0))
  er : Bx W (b + 1) (.iface 23 (.int .i64 3)) 29
  gr : Gr w W
section
variable {s : ByteArray} {w W W' : World} {b : Nat} {L : List ByteArray} {ns : List Int} {v : Value} {D : Nat → Prop}
theorem LnI.sav (h : LnI s w b L W ns v) (hw : w.heap.size = b) (k : Sav D W W') (hD : ∀ q, D q → b + 3 ≤ q ∧ q ≤ b + 7) : LnI s w b L W' ns v := by
  have hb : ∀ q, q < b + 3 → W.heap[q]? ≠ none → W'.heap[q]? = W.heap[q]? := fun q hq hn => k.block q (by
    rcases Nat.lt_or_ge q W.heap.size with h | h
    · exact h
    · exact absurd (Array.getElem?_eq_none h) hn) fun hd => by have := hD q hd; omega
  refine ⟨h.sp, h.suf, (hb b (by omega) (by rw [h.it]; simp)).trans h.it, h.er.to (hb _ (by omega) (by rw [show W.heap[b + 1]? = _ from h.er]; simp)), h.bx.to (hb _ (by omega) (by rw [show W.heap[b + 1 + 1]? = _ from h.bx]; simp)), Row.sav h.row k fun g hg hd => ?_, h.own, k.gr h.gr fun q hq => ?_⟩
  · have := h.own g hg; have := hD g hd; omega
  · have := hD q hq; omega
theorem LnX.sav (h : LnX s w b W) (hw : w.heap.size = b) (k : Sav D W W') (hD : ∀ q, D q → b + 3 ≤ q ∧ q ≤ b + 7) : LnX s w b W' := by
  have hb : ∀ q, q < b + 3 → W.heap[q]? ≠ none → W'.heap[q]? = W.heap[q]? := fun q hq hn => k.block q (by
    rcases Nat.lt_or_ge q W.heap.size with h | h
    · exact h
    · exact absurd (Array.getElem?_eq_none h) hn) fun hd => by have := hD q hd; omega
  refine ⟨h.no, (hb b (by omega) (by rw [h.it]; simp)).trans h.it, h.er.to (hb _ (by omega) (by rw [show W.heap[b + 1]? = _ from h.er]; simp)), k.gr h.gr fun q hq => ?_⟩
  have := hD q hq; omega
theorem LnI.lt (h : LnI s w b L W ns v) : b + 2 < W.heap.size := h.bx.lt
theorem LnI.few (h : LnI s w b L W ns v) : ns.length + L.length = (pcs kBlank s).length := by
  have := congrArg List.length h.sp
  simpa using this.symm
theorem LnI.bad {x : ByteArray} (h : LnI s w b (x :: L) W ns v) (hx : numR x = none) : lineR s = none := by
  unfold lineR
  rw [h.sp]
  exact lineN_bad (by simp [hx])
theorem LnI.size {x : ByteArray} (h : LnI s w b (x :: L) W ns v) : x.size ≤ s.size := by
  obtain ⟨pre, hp⟩ := h.suf
  have h1 := sum_le_of_mem (x := x) (l := pcs kBlank s) (by rw [hp]; simp)
  rw [pcs_sum rfl s.size s (Nat.le_refl _)] at h1
  omega
theorem LnI.less (h : LnI s w b L W ns v) : ns.length ≤ s.size + 1 := by
  have h1 := h.few
  have h2 := sum_len (pcs kBlank s)
  rw [pcs_sum rfl s.size s (Nat.le_refl _)] at h2
  omega
end
theorem keep_sav {D : Nat → Prop} {W W' : World} {b : Nat} (k : Sav D W W') (hl : b + 7 < W.heap.size) (hm : 2 < b) (hD : ∀ q, D q → b ≤ q ∧ (q < b + 3 ∨ b + 7 < q)) : Keep (b + 6) (b + 3 + 1) (b + 3) (b + 3 + 2) W W' := by
  have hb : ∀ q, q < W.heap.size → (q < b ∨ (b + 3 ≤ q ∧ q ≤ b + 7)) → W'.heap[q]? = W.heap[q]? := fun q hq h => k.block q hq fun hd => by have := hD q hd; omega
  exact ⟨k.size, hb _ (by omega) (by omega), hb _ (by omega) (by omega), hb _ (by omega) (by omega), hb _ (by omega) (by omega), hb _ (by omega) (by omega), hb _ (by omega) (by omega)⟩
section
variable {s : ByteArray} {w W W' w5 w7 : World} {b : Nat} {L : List ByteArray} {ns : List Int} {v v' : Value} {x : ByteArray}
theorem LnI.err (h : LnI s w b (x :: L) W ns v) (hw : w.heap.size = b) (g : Gr W w5) (hn : numR x = none) (hlt : b + 7 < W.heap.size) (hm : 2 < b)
    (hW : W' = (((((w5.setCell ⟨b, 0, none⟩ (.int .i64 0)).setCell ⟨b, 1, none⟩ (.int .i64 0)).setCell ⟨b, 2, none⟩ (.int .i64 0)).setCell ⟨b, 3, none⟩ (.int .i64 0)).setCell ⟨b, 4, none⟩ (.int .i64 0)).setCell ⟨b + 1, 0, none⟩ (.iface 23 (.int .i64 3))) :
    Keep (b + 6) (b + 3 + 1) (b + 3) (b + 3 + 2) W W' ∧ LnX s w b W' := by
  have k1 : Sav (fun q => q = b ∨ q = b + 1) w5 W' := by
    rw [hW]
    exact ((((((Sav.set b 0 _).mono fun _ h => .inl h).then ((Sav.set b 1 _).mono fun _ h => .inl h)).then ((Sav.set b 2 _).mono fun _ h => .inl h)).then ((Sav.set b 3 _).mono fun _ h => .inl h)).then ((Sav.set b 4 _).mono fun _ h => .inl h)).then ((Sav.set (b + 1) 0 _).mono fun _ h => .inr h)
  have k2 : Sav (fun q => q = b ∨ q = b + 1) W W' := (Sav.of_gr g).then k1
  have hl := h.lt
  refine ⟨keep_sav k2 hlt hm fun q hq => by omega, h.bad hn, ?_, ?_, k2.gr h.gr fun q hq => by omega⟩
  · rw [hW, set_other _ _ (by omega)]
    exact zero_set ((g.block (by omega)).trans h.it)
  · have e1 : Bx w5 (b + 1) .nilIface 29 := h.er.gr g
    have e2 : (((((w5.setCell ⟨b, 0, none⟩ (.int .i64 0)).setCell ⟨b, 1, none⟩ (.int .i64 0)).setCell ⟨b, 2, none⟩ (.int .i64 0)).setCell ⟨b, 3, none⟩ (.int .i64 0)).setCell ⟨b, 4, none⟩ (.int .i64 0)).heap[b + 1]? = w5.heap[b + 1]? := by
      rw [Below.heap_setCell _ _ _ _ (by simp), Below.heap_setCell _ _ _ _ (by simp), Below.heap_setCell _ _ _ _ (by simp), Below.heap_setCell _ _ _ _ (by simp), Below.heap_setCell _ _ _ _ (by simp)]
    rw [hW]
    exact (e1.to e2).set _
theorem zero_err (h : LnI s w b L W ns v) (hw : w.heap.size = b) (hn : lineR s = none)
    (hW : W' = (((((W.setCell ⟨b, 0, none⟩ (.int .i64 0)).setCell ⟨b, 1, none⟩ (.int .i64 0)).setCell ⟨b, 2, none⟩ (.int .i64 0)).setCell ⟨b, 3, none⟩ (.int .i64 0)).setCell ⟨b, 4, none⟩ (.int .i64 0)).setCell ⟨b + 1, 0, none⟩ (.iface 23 (.int .i64 3))) :
    LnX s w b W' ∧ ∀ q, q ≠ b → q ≠ b + 1 → W'.heap[q]? = W.heap[q]? := by
  have k1 : Sav (fun q => q = b ∨ q = b + 1) W W' := by
    rw [hW]
    exact ((((((Sav.set b 0 _).mono fun _ h => .inl h).then ((Sav.set b 1 _).mono fun _ h => .inl h)).then ((Sav.set b 2 _).mono fun _ h => .inl h)).then ((Sav.set b 3 _).mono fun _ h => .inl h)).then ((Sav.set b 4 _).mono fun _ h => .inl h)).then ((Sav.set (b + 1) 0 _).mono fun _ h => .inr h)
  refine ⟨⟨hn, ?_, ?_, k1.gr h.gr fun q hq => by omega⟩, fun q h1 h2 => ?_⟩
  · rw [hW, set_other _ _ (by omega)]
    exact zero_set h.it
  · have e2 : (((((W.setCell ⟨b, 0, none⟩ (.int .i64 0)).setCell ⟨b, 1, none⟩ (.int .i64 0)).setCell ⟨b, 2, none⟩ (.int .i64 0)).setCell ⟨b, 3, none⟩ (.int .i64 0)).setCell ⟨b, 4, none⟩ (.int .i64 0)).heap[b + 1]? = W.heap[b + 1]? := by
      rw [Below.heap_setCell _ _ _ _ (by simp), Below.heap_setCell _ _ _ _ (by simp), Below.heap_setCell _ _ _ _ (by simp), Below.heap_setCell _ _ _ _ (by simp), Below.heap_setCell _ _ _ _ (by simp)]
    rw [hW]
    exact (h.er.to e2).set _
  · rw [hW, Below.heap_setCell _ _ _ _ (by simpa using h2), Below.heap_setCell _ _ _ _ (by simpa using h1), Below.heap_setCell _ _ _ _ (by simpa using h1), Below.heap_setCell _ _ _ _ (by simpa using h1), Below.heap_setCell _ _ _ _ (by simpa using h1), Below.heap_setCell _ _ _ _ (by simpa using h1)]
theorem item_set {w5 : World} {a0 a1 a2 a3 a4 : Int} (hi : w5.heap[b]? = some (.cells #[.int .i64 0, .int .i64 0, .int .i64 0, .int .i64 0, .int .i64 0] 42 (0, 0))) (he : Bx w5 (b + 1) .nilIface 29) (hg : Gr w w5) (hw : w.heap.size = b)
    (hW : W' = (((((w5.setCell ⟨b, 0, none⟩ (.int .i64 a0)).setCell ⟨b, 1, none⟩ (.int .i64 a1)).setCell ⟨b, 2, none⟩ (.int .i64 a2)).setCell ⟨b, 3, none⟩ (.int .i64 a3)).setCell ⟨b, 4, none⟩ (.int .i64 a4)).setCell ⟨b + 1, 0, none⟩ .nilIface) :
    W'.heap[b]? = some (.cells #[.int .i64 a0, .int .i64 a1, .int .i64 a2, .int .i64 a3, .int .i64 a4] 42 (0, 0)) ∧ Bx W' (b + 1) .nilIface 29 ∧ Gr w W' ∧ ∀ q, q ≠ b → q ≠ b + 1 → W'.heap[q]? = w5.heap[q]? := by
  have k1 : Sav (fun q => q = b ∨ q = b + 1) w5 W' := by
    rw [hW]
    exact ((((((Sav.set b 0 _).mono fun _ h => .inl h).then ((Sav.set b 1 _).mono fun _ h => .inl h)).then ((Sav.set b 2 _).mono fun _ h => .inl h)).then ((Sav.set b 3 _).mono fun _ h => .inl h)).then ((Sav.set b 4 _).mono fun _ h => .inl h)).then ((Sav.set (b + 1) 0 _).mono fun _ h => .inr h)
  refine ⟨?_, ?_, k1.gr hg fun q hq => by omega, fun q h1 h2 => ?_⟩
  · rw [hW, set_other _ _ (by omega)]
    simp [World.setCell, Array.getElem?_modify, hi]
  · have e2 : (((((w5.setCell ⟨b, 0, none⟩ (.int .i64 a0)).setCell ⟨b, 1, none⟩ (.int .i64 a1)).setCell ⟨b, 2, none⟩ (.int .i64 a2)).setCell ⟨b, 3, none⟩ (.int .i64 a3)).setCell ⟨b, 4, none⟩ (.int .i64 a4)).heap[b + 1]? = w5.heap[b + 1]? := by
      rw [Below.heap_setCell _ _ _ _ (by simp), Below.heap_setCell _ _ _ _ (by simp), Below.heap_setCell _ _ _ _ (by simp), Below.heap_setCell _ _ _ _ (by simp), Below.heap_setCell _ _ _ _ (by simp)]
    rw [hW]
    exact (he.to e2).set _
  · rw [hW, Below.heap_setCell _ _ _ _ (by simpa using h2), Below.heap_setCell _ _ _ _ (by simpa using h1), Below.heap_setCell _ _ _ _ (by simpa using h1), Below.heap_setCell _ _ _ _ (by simpa using h1), Below.heap_setCell _ _ _ _ (by simpa using h1), Below.heap_setCell _ _ _ _ (by simpa using h1)]
theorem LnX.put {D : Nat} (h : LnX s w b W) (hw : w.heap.size = b) (k : Sav (fun q => q = D) W W') (hD : b + 3 ≤ D ∧ D ≤ b + 7) : LnX s w b W' := h.sav hw k fun q hq => by omega
theorem LnI.more (h : LnI s w b (x :: L) W ns v) (hw : w.heap.size = b) (g : Gr W w5) {n : Int} (hn : numR x = some n) (hlt : b + 7 < W.heap.size) (hm : 2 < b) {o : Obj}
    (hrow : IntRow w7 v' (ns ++ [n])) (hgr : (w5.alloc o).grownBy w7 v.ownBlock) (hown : ∀ g, v'.ownBlock = some g → v.ownBlock = some g ∨ (w5.alloc o).heap.size ≤ g) :
    Keep (b + 6) (b + 3 + 1) (b + 3) (b + 3 + 2) W (w7.setCell ⟨b + 1 + 1, 0, none⟩ v') ∧ LnI s w b L (w7.setCell ⟨b + 1 + 1, 0, none⟩ v') (ns ++ [n]) v' := by
  have g5 : Gr W (w5.alloc o) := g.alloc _
  have k7 : Sav (fun q => v.ownBlock = some q) W w7 := (Sav.of_gr g5).then (Sav.of_grown hgr fun q e => e)
  have k2 : Sav (fun q => v.ownBlock = some q ∨ q = b + 1 + 1) W (w7.setCell ⟨b + 1 + 1, 0, none⟩ v') := (k7.mono fun _ h => .inl h).then ((Sav.set (b + 1 + 1) 0 _).mono fun _ h => .inr h)
  have hl := h.lt
  have hs5 : W.heap.size ≤ (w5.alloc o).heap.size := g5.size
  have hb : ∀ q, q < b + 3 → q ≠ b + 1 + 1 → (w7.setCell ⟨b + 1 + 1, 0, none⟩ v').heap[q]? = W.heap[q]? := fun q hq hne => k2.block q (by omega) fun hd => by
    rcases hd with hd | hd
    · have := h.own q hd; omega
    · exact hne hd
  have ow : ∀ g, v'.ownBlock = some g → b + 7 < g := fun q hq => by
    rcases hown q hq with e | e
    · exact h.own q e
    · omega
  refine ⟨keep_sav k2 hlt hm fun q hq => ?_, ?_, ?_, (hb b (by omega) (by omega)).trans h.it, h.er.to (hb _ (by omega) (by omega)), ?_, ?_, ow, ?_⟩
  · rcases hq with hq | hq
    · have := h.own q hq; omega
    · omega
  · rw [h.sp, List.map_cons, hn, List.map_append]
    simp
  · obtain ⟨pre, hp⟩ := h.suf
    exact ⟨pre ++ [x], by rw [hp]; simp⟩
  · have e1 : Bx w7 (b + 1 + 1) v 61 := h.bx.to (k7.block _ hl fun hd => by have := h.own _ hd; omega)
    exact e1.set _
  · exact Row.setCell hrow _ fun e => by have := ow _ e; simp only at this; omega
  · exact k2.gr h.gr fun q hq => by
      rcases hq with hq | hq
      · have := h.own q hq; omega
      · omega
end
def lineE (s : ByteArray) : Ending → Prop := fun e => match lineR s with
  | some x => e = .returned (.tuple #[x.val, .nilIface])
  | none => e = .returned (.tuple #[Itm.zero.val, .iface 23 (.int .i64 3)])
set_option maxRecDepth 100000 in
set_option maxHeartbeats 8000000 in
theorem line_any (s : ByteArray) (hs : s.size ≤ 20001) (w : World) (he : Env w) : Calls Tryd.prog 13 #[.string s] w fun E w' => lineE s E ∧ Gr w w' := by
  have HE := Lib.hid he
  have HS := Lib.hid hs
  clear he hs
  refine (callsIn_wide (n := 4)).1 ?_
  refine callsIn_of_wp_marks Tryd.func13 rfl trivial ?_ rfl
  simp only [Tryd.ntmps13, List.size_toArray, List.length_cons, List.length_nil, Nat.reduceAdd, Nat.reduceSub, Array.replicate_succ, Array.replicate_zero, List.push_toArray, List.append_toArray, List.nil_append, List.cons_append]
  gi_wp2
  obtain ⟨b, hb⟩ : ∃ b, b = w.heap.size := ⟨_, rfl⟩
  obtain ⟨w1, hw1⟩ : ∃ w1, w1 = ((w.alloc (.cells #[.int .i64 0, .int .i64 0, .int .i64 0, .int .i64 0, .int .i64 0] 42)).alloc (.cells #[.nilIface] 29)).alloc (.cells #[.slice none 0 0] 61) := ⟨_, rfl⟩
  have HW1 : Hid (w1.heap[b]? = some (.cells #[.int .i64 0, .int .i64 0, .int .i64 0, .int .i64 0, .int .i64 0] 42 (0, 0)) ∧ Bx w1 (b + 1) .nilIface 29 ∧ Bx w1 (b + 1 + 1) (.slice none 0 0) 61 ∧ Gr w w1 ∧ w1.heap.size = b + 3) := Lib.hid (by
    rw [hw1, hb]
    refine ⟨?_, ?_, ?_, ((Gr.refl w).alloc _).alloc _ |>.alloc _, by simp⟩
    · exact (((Gr.refl _).alloc _).alloc _ |>.block (by simp)).trans (heap_alloc_new w _)
    · have := (Bx.new (w.alloc (.cells #[.int .i64 0, .int .i64 0, .int .i64 0, .int .i64 0, .int .i64 0] 42)) .nilIface 29).gr ((Gr.refl _).alloc (.cells #[.slice none 0 0] 61))
      rwa [World.size_alloc] at this
    · have := Bx.new ((w.alloc (.cells #[.int .i64 0, .int .i64 0, .int .i64 0, .int .i64 0, .int .i64 0] 42)).alloc (.cells #[.nilIface] 29)) (.slice none 0 0) 61
      rwa [World.size_alloc, World.size_alloc] at this)
  have HB := Lib.hid hb
  rw [← hw1, ← hb]
  clear hw1 hb
  refine ⟨trivial, ?_⟩
  gi_at_call 12
  refine (callsIn_wide.2 (SplitSeq_any s ⟨#[32]⟩ _)).mono ?_
  rintro e w2 ⟨rfl, hw2⟩
  have HG2 : Hid (Gr w1 w2 ∧ w2.heap.size = b + 6 ∧ Bx w2 w1.heap.size (.string s) 9 ∧ Bx w2 (w1.heap.size + 1) (.string ⟨#[32]⟩) 9 ∧ Bx w2 (w1.heap.size + 2) (.int .i64 0) 3) := Lib.hid (by
    rw [hw2]
    exact ⟨seqW_gr _ _ _, by rw [seqW_size, HW1.out.2.2.2.2], seqW_s _ _ _, seqW_p _ _ _, seqW_v _ _ _⟩)
  clear hw2
  gi_wp2
  have HQ : Hid (w1.heap.size = b + 3) := Lib.hid HW1.out.2.2.2.2
  have HMX : Hid (2 < b ∧ ∀ W, Gr w W → ∃ m, W.cell? ⟨2, 0, none⟩ = some (.int .i64 m)) := Lib.hid (by
    obtain ⟨m, hm⟩ := HE.out.mx
    exact ⟨by rw [HB.out]; exact cell_lt hm, fun W g => ⟨m, g.cell hm⟩⟩)
  refine range_split (n := 4) (by decide) (bp := w1.heap.size + 1) (bs := w1.heap.size) (bv := w1.heap.size + 2) (c := ⟨#[32]⟩) (t := s) rfl rfl rfl (by omega) (by omega) (by have := HMX.out.1; have := HQ.out; omega) HS.out HG2.out.2.2.2.1 HG2.out.2.2.1 HG2.out.2.2.2.2 (HMX.out.2 _ (HW1.out.2.2.2.1.trans HG2.out.1))
    (fun L W => ∃ ns v, LnI s w b L W ns v) (fun W => LnX s w b W) ?hI ?hIx ?h0
    (fun x => { tmps := #[.string s, undef, .pointer (some ⟨b, 0, none⟩), .pointer (some ⟨b + 1, 0, none⟩), .pointer (some ⟨b + 1 + 1, 0, none⟩), .string x, undef, undef, .string s, .func (.func 33) #[] #[.pointer (some ⟨w1.heap.size + 1, 0, none⟩), .pointer (some ⟨w1.heap.size, 0, none⟩), .pointer (some ⟨w1.heap.size + 2, 0, none⟩)], .string x, undef, undef, undef, undef, undef, undef, undef, undef, undef, undef, undef, undef, undef, undef, undef, undef, undef, undef, undef, undef, undef, undef, undef, undef, undef, undef, undef, undef, undef, undef, undef, undef, undef, undef, undef, undef, undef, undef, undef, undef], defers := [] }) ?assign ?body ?done ?stop
  case hI =>
    rintro L W W' ⟨ns, v, h⟩ k
    exact ⟨ns, v, h.sav HB.out.symm k fun q hq => by have := HQ.out; have := HG2.out.2.1; omega⟩
  case hIx =>
    rintro W W' h k
    exact h.sav HB.out.symm k fun q hq => by have := HQ.out; have := HG2.out.2.1; omega
  case h0 =>
    exact ⟨[], _, rfl, ⟨[], rfl⟩, (HG2.out.1.block (by have := HQ.out; omega)).trans HW1.out.1, HW1.out.2.1.gr HG2.out.1, HW1.out.2.2.1.gr HG2.out.1, IntRow.nil _, fun g hg => by simp [Value.ownBlock] at hg, HW1.out.2.2.2.1.trans HG2.out.1⟩
  case assign =>
    intro l x W K hK
    gi_wp2
    exact hK
  case body =>
    rintro l x L W ⟨ns, v, hI⟩ hlt
    have HI := Lib.hid hI
    have HLT := Lib.hid (show b + 7 < W.heap.size from by have := HG2.out.2.1; omega)
    clear hI hlt
    have HXS : Hid (x.size ≤ 20001) := Lib.hid (by have := HI.out.size; have := HS.out; omega)
    have HEW := Lib.hid (HE.out.gr HI.out.gr)
    rw [HG2.out.2.1, HQ.out]
    have HFEW : Hid (ns.length ≤ 999999) := Lib.hid (by have := HI.out.less; have := HS.out; omega)
    rcases Classical.em (∃ v, Lib.atoiAll x.data.toList = .ok v) with ⟨n, hv⟩ | hno
    · have HBN := Lib.hid (atoi_bd hv)
      have HV := Lib.hid hv
      clear hv
      cases hq : (Lib.itoa n == x.toList) with
      | true =>
        have HN := Lib.hid (numR_yes HV.out hq)
        obtain ⟨va, vc, rfl⟩ := HI.out.row.shape
        gi_wp2_with (first
          | (refine ⟨trivial, ?_⟩
             gi_at_call 22
             refine (CallsIn.inRound l (callsIn_wide.2 (atoi_g_ok x HXS.out _ HEW.out HV.out))).mono ?_
             rintro e w5 ⟨rfl, hg⟩
             have HG5 := Lib.hid hg
             clear hg)
          | (refine ⟨trivial, ?_⟩
             gi_at_call 23
             refine (CallsIn.inRound l (callsIn_wide.2 (itoa_g n HBN.out _ (HEW.out.gr HG5.out).tab))).mono ?_
             rintro e w6 ⟨rfl, hg⟩
             have HG6 := Lib.hid (HG5.out.trans hg)
             obtain ⟨v', w7, hr, hrow, hgr, hown, _⟩ := IntRow.app (w := w6.alloc (.cells #[.int .i64 n] 3)) (c := 1) ((HI.out.row.gr HG6.out).gr ((Gr.refl w6).alloc _)) ((Bx.new w6 _ _).c) HFEW.out
             obtain ⟨ra, rc, hre⟩ := hrow.shape
             rw [show (ns ++ [n]).length = ns.length + 1 from by simp] at hre
             subst hre
             have HM := Lib.hid (HI.out.more HB.out.symm HG6.out HN.out HLT.out HMX.out.1 hrow hgr hown)
             have f1 := (HI.out.bx.gr HG6.out).c
             have e7 : Bx w7 (b + 1 + 1) (.slice va ns.length vc) 61 := ((HI.out.bx.gr HG6.out).gr ((Gr.refl w6).alloc _)).to (hgr.block _ (Nat.lt_trans (HI.out.bx.gr HG6.out).lt (by simp)) (fun e => by have := HI.out.own _ e.symm; omega))
             have f2 := e7.c
             have f3 := e7.fz
             have HRUN := Lib.hid hr
             clear hg hrow hgr hown e7 hr)
          | (gi_at_builtin; refine wpListIn_app rfl _ _ _ (by rfl) (by rfl) (by rfl) HRUN.out ?_))
        exact ⟨HM.out.1, _, _, HM.out.2⟩
      | false =>
        have HN := Lib.hid (numR_other HV.out hq)
        gi_wp2_with (first
          | (refine ⟨trivial, ?_⟩
             gi_at_call 22
             refine (CallsIn.inRound l (callsIn_wide.2 (atoi_g_ok x HXS.out _ HEW.out HV.out))).mono ?_
             rintro e w5 ⟨rfl, hg⟩
             have HG5 := Lib.hid hg
             clear hg)
          | (refine ⟨trivial, ?_⟩
             gi_at_call 23
             refine (CallsIn.inRound l (callsIn_wide.2 (itoa_g n HBN.out _ (HEW.out.gr HG5.out).tab))).mono ?_
             rintro e w6 ⟨rfl, hg⟩
             have HG6 := Lib.hid (HG5.out.trans hg)
             obtain ⟨e0, e1, e2, e3, e4, z0, z1, z2, z3, z4⟩ := zero_at ((HG6.out.block (by have := HI.out.lt; omega)).trans HI.out.it)
             have e5 := (HI.out.er.gr HG6.out).c
             have z5 := (HI.out.er.gr HG6.out).fz
             clear hg))
        exact HI.out.err HB.out.symm HG6.out HN.out HLT.out HMX.out.1 rfl
    · have hv : ∀ v, Lib.atoiAll x.data.toList ≠ .ok v := fun v e => hno ⟨v, e⟩
      have HV := Lib.hid hv
      have HN := Lib.hid (numR_no hv)
      clear hv hno
      gi_wp2_with (first
        | (refine ⟨trivial, ?_⟩
           gi_at_call 22
           refine (CallsIn.inRound l (callsIn_wide.2 (atoi_g_no x HXS.out _ HEW.out HV.out))).mono ?_
           rintro e w6 ⟨⟨z, t, p, rfl⟩, hg⟩
           have HG6 := Lib.hid hg
           obtain ⟨e0, e1, e2, e3, e4, z0, z1, z2, z3, z4⟩ := zero_at ((HG6.out.block (by have := HI.out.lt; omega)).trans HI.out.it)
           have e5 := (HI.out.er.gr HG6.out).c
           have z5 := (HI.out.er.gr HG6.out).fz
           clear hg))
      refine ⟨trivial, ?_⟩
      gi_wp2
      exact HI.out.err HB.out.symm HG6.out HN.out HLT.out HMX.out.1 rfl
  case done =>
    rintro W ⟨ns, v, hI⟩ hD
    have HI := Lib.hid hI
    have HD := Lib.hid hD
    obtain ⟨va, vc, rfl⟩ := hI.row.shape
    have f1 := hI.bx.c
    obtain ⟨e0, e1, e2, e3, e4, z0, z1, z2, z3, z4⟩ := zero_at hI.it
    have e5 := hI.er.c
    have z5 := hI.er.fz
    have HSP : Hid ((pcs kBlank s).map numR = ns.map some) := Lib.hid (by have := hI.sp; simpa using this)
    clear hI hD
    obtain ⟨n, hn⟩ : ∃ n, n = ns.length := ⟨_, rfl⟩
    have HN := Lib.hid hn
    rw [← hn] at f1
    clear hn
    have hn2 : (n : Int) ≤ 20002 := by have h1 := HI.out.less; have h2 := HS.out; have := HN.out; omega
    by_cases h5 : n = 5
    · subst h5
      obtain ⟨a0, a1, a2, a3, a4, rfl⟩ : ∃ a0 a1 a2 a3 a4, ns = [a0, a1, a2, a3, a4] := by
        match ns, HN.out with
        | [a0, a1, a2, a3, a4], _ => exact ⟨_, _, _, _, _, rfl⟩
      obtain ⟨g, off, cap, hve, _, _, hc⟩ := Row.cells HI.out.row (by simp)
      injection hve with hv1 hv2 hv3
      subst hv1
      have g0 : W.cell? ⟨g, off, none⟩ = some (.int .i64 a0) := hc 0 _ rfl
      have g1 : W.cell? ⟨g, off + 1, none⟩ = some (.int .i64 a1) := hc 1 _ rfl
      have g2 : W.cell? ⟨g, off + 2, none⟩ = some (.int .i64 a2) := hc 2 _ rfl
      have g3 : W.cell? ⟨g, off + 3, none⟩ = some (.int .i64 a3) := hc 3 _ rfl
      have g4 : W.cell? ⟨g, off + 4, none⟩ = some (.int .i64 a4) := hc 4 _ rfl
      have HLR : Hid (lineR s = some ⟨a0, a1, a2, a3, a4⟩) := Lib.hid (by unfold lineR; rw [HSP.out]; rfl)
      clear hc hv2 hv3
      gi_wp2
      refine wpIn_wide.2 ?_
      refine wp_region_gr (n := 16) [Fg.eq (.slice (some ⟨g, off, none⟩) 5 vc), Fg.eq (.pointer (some ⟨g, off, none⟩)), Fg.eq (.int .i64 a0), Fg.eq (.slice (some ⟨g, off, none⟩) 5 vc), Fg.eq (.pointer (some ⟨g, off + 1, none⟩)), Fg.eq (.int .i64 a1), Fg.eq (.slice (some ⟨g, off, none⟩) 5 vc), Fg.eq (.pointer (some ⟨g, off + 2, none⟩)), Fg.eq (.int .i64 a2), Fg.eq (.slice (some ⟨g, off, none⟩) 5 vc), Fg.eq (.pointer (some ⟨g, off + 3, none⟩)), Fg.eq (.int .i64 a3), Fg.eq (.slice (some ⟨g, off, none⟩) 5 vc), Fg.eq (.pointer (some ⟨g, off + 4, none⟩)), Fg.eq (.int .i64 a4), Fg.eq (.agg #[.int .i64 a0, .int .i64 a1, .int .i64 a2, .int .i64 a3, .int .i64 a4])] [35, 36, 37, 38, 39, 40, 41, 42, 43, 44, 45, 46, 47, 48, 49, 50] (by kernel_rfl) (by kernel_rfl) (by kernel_rfl) ?_ ?_
      · intro L' q' o' ac w1' hi' ho hA
        have hgr : Gr W w1' := (Gr.refl W).drew.trans hA.gr
        match q', hi' with
        | 0, _ =>
          obtain rfl := Option.some.inj ho
          exact gstep_val (h_load rfl (show ac.eval (.tmp 4) = .pointer (some ⟨b + 1 + 1, 0, none⟩) from hA.other 4 (by decide)) (hgr.cell f1)) rfl
        | 1, _ =>
          obtain rfl := Option.some.inj ho
          exact gstep_val (h_idx (k := 0) rfl (hA.fact 0 (hA.dep 0 (by kernel_rfl) (by decide))) rfl (by decide)) rfl
        | 2, _ =>
          obtain rfl := Option.some.inj ho
          exact gstep_val (h_loadI rfl (hA.fact 1 (hA.dep 1 (by kernel_rfl) (by decide))) (hgr.cell g0)) rfl
        | 3, _ =>
          obtain rfl := Option.some.inj ho
          exact gstep_val (h_load rfl (show ac.eval (.tmp 4) = .pointer (some ⟨b + 1 + 1, 0, none⟩) from hA.other 4 (by decide)) (hgr.cell f1)) rfl
        | 4, _ =>
          obtain rfl := Option.some.inj ho
          exact gstep_val (h_idx (k := 1) rfl (hA.fact 3 (hA.dep 3 (by kernel_rfl) (by decide))) rfl (by decide)) rfl
        | 5, _ =>
          obtain rfl := Option.some.inj ho
          exact gstep_val (h_loadI rfl (hA.fact 4 (hA.dep 4 (by kernel_rfl) (by decide))) (hgr.cell g1)) rfl
        | 6, _ =>
          obtain rfl := Option.some.inj ho
          exact gstep_val (h_load rfl (show ac.eval (.tmp 4) = .pointer (some ⟨b + 1 + 1, 0, none⟩) from hA.other 4 (by decide)) (hgr.cell f1)) rfl
        | 7, _ =>
          obtain rfl := Option.some.inj ho
          exact gstep_val (h_idx (k := 2) rfl (hA.fact 6 (hA.dep 6 (by kernel_rfl) (by decide))) rfl (by decide)) rfl
        | 8, _ =>
          obtain rfl := Option.some.inj ho
          exact gstep_val (h_loadI rfl (hA.fact 7 (hA.dep 7 (by kernel_rfl) (by decide))) (hgr.cell g2)) rfl
        | 9, _ =>
          obtain rfl := Option.some.inj ho
          exact gstep_val (h_load rfl (show ac.eval (.tmp 4) = .pointer (some ⟨b + 1 + 1, 0, none⟩) from hA.other 4 (by decide)) (hgr.cell f1)) rfl
        | 10, _ =>
          obtain rfl := Option.some.inj ho
          exact gstep_val (h_idx (k := 3) rfl (hA.fact 9 (hA.dep 9 (by kernel_rfl) (by decide))) rfl (by decide)) rfl
        | 11, _ =>
          obtain rfl := Option.some.inj ho
          exact gstep_val (h_loadI rfl (hA.fact 10 (hA.dep 10 (by kernel_rfl) (by decide))) (hgr.cell g3)) rfl
        | 12, _ =>
          obtain rfl := Option.some.inj ho
          exact gstep_val (h_load rfl (show ac.eval (.tmp 4) = .pointer (some ⟨b + 1 + 1, 0, none⟩) from hA.other 4 (by decide)) (hgr.cell f1)) rfl
        | 13, _ =>
          obtain rfl := Option.some.inj ho
          exact gstep_val (h_idx (k := 4) rfl (hA.fact 12 (hA.dep 12 (by kernel_rfl) (by decide))) rfl (by decide)) rfl
        | 14, _ =>
          obtain rfl := Option.some.inj ho
          exact gstep_val (h_loadI rfl (hA.fact 13 (hA.dep 13 (by kernel_rfl) (by decide))) (hgr.cell g4)) rfl
        | 15, _ =>
          obtain rfl := Option.some.inj ho
          exact gstep_val (h_build rfl (hA.fact 2 (hA.dep 2 (by kernel_rfl) (by decide))) (hA.fact 5 (hA.dep 5 (by kernel_rfl) (by decide))) (hA.fact 8 (hA.dep 8 (by kernel_rfl) (by decide))) (hA.fact 11 (hA.dep 11 (by kernel_rfl) (by decide))) (hA.fact 14 (hA.dep 14 (by kernel_rfl) (by decide)))) rfl
        | k + 16, hk => exact absurd (show k + 16 < 16 from hk) (by omega)
      · intro vs5 w5 hg5 hv5
        have HG5 := Lib.hid ((Gr.refl W).drew.trans hg5)
        have vz : vs5 15 = .agg #[.int .i64 a0, .int .i64 a1, .int .i64 a2, .int .i64 a3, .int .i64 a4] := hv5 15 (by omega)
        clear hv5 hg5
        simp only [putN, List.drop_succ_cons, List.drop_zero, List.getElem?_cons_succ, List.getElem?_cons_zero, vz]
        clear vz
        generalize vs5 0 = y0
        generalize vs5 1 = y1
        generalize vs5 2 = y2
        generalize vs5 3 = y3
        generalize vs5 4 = y4
        generalize vs5 5 = y5
        generalize vs5 6 = y6
        generalize vs5 7 = y7
        generalize vs5 8 = y8
        generalize vs5 9 = y9
        generalize vs5 10 = y10
        generalize vs5 11 = y11
        generalize vs5 12 = y12
        generalize vs5 13 = y13
        generalize vs5 14 = y14
        have it5 := (HG5.out.block (by have := HI.out.lt; omega)).trans HI.out.it
        have er5 := HI.out.er.gr HG5.out
        clear e0 e1 e2 e3 e4 z0 z1 z2 z3 z4 e5 z5
        obtain ⟨e0, e1, e2, e3, e4, z0, z1, z2, z3, z4⟩ := zero_at it5
        have e5 := er5.c
        have z5 := er5.fz
        have HIT := Lib.hid it5
        have HER := Lib.hid er5
        clear it5 er5
        go_wp2
        gi_wp2
        obtain ⟨W3, hW3⟩ : ∃ W3, W3 = ((((((w5.setCell ⟨b, 0, none⟩ (.int .i64 a0)).setCell ⟨b, 1, none⟩ (.int .i64 a1)).setCell ⟨b, 2, none⟩ (.int .i64 a2)).setCell ⟨b, 3, none⟩ (.int .i64 a3)).setCell ⟨b, 4, none⟩ (.int .i64 a4)).setCell ⟨b + 1, 0, none⟩ .nilIface) := ⟨_, rfl⟩
        obtain ⟨hit, her, hgr3, hoth⟩ := item_set HIT.out HER.out (HI.out.gr.trans HG5.out) HB.out.symm hW3
        have hD3 : W3.heap[w2.heap.size]? = some (.deferred (some [])) := (hoth _ (by have := HG2.out.2.1; omega) (by have := HG2.out.2.1; omega)).trans ((HG5.out.block (by have := HI.out.lt; have := (Array.getElem?_eq_some_iff.1 HD.out).1; omega)).trans HD.out)
        rw [← hW3]
        clear hW3
        refine ⟨by simp, .inl ⟨_, _, rfl, run_takeDeferred hD3, ?_⟩⟩
        have hP := sav_put W3 w2.heap.size (.deferred none)
        have hit4 := (hP.block b (Array.getElem?_eq_some_iff.1 hit).1 (by have := HG2.out.2.1; omega)).trans hit
        have her4 := her.to (hP.block (b + 1) her.lt (by have := HG2.out.2.1; omega))
        have y0 := cell_of_row _ _ 0 _ _ _ hit4
        have y1 := cell_of_row _ _ 1 _ _ _ hit4
        have y2 := cell_of_row _ _ 2 _ _ _ hit4
        have y3 := cell_of_row _ _ 3 _ _ _ hit4
        have y4 := cell_of_row _ _ 4 _ _ _ hit4
        have y5 := her4.c
        have hg4 : Gr w (W3.putObj w2.heap.size (.deferred none)) := hP.gr hgr3 fun q hq => by have := HG2.out.2.1; have := HB.out; omega
        exact ⟨.tuple #[Itm.val ⟨a0, a1, a2, a3, a4⟩, .nilIface], by simp at y0 y1 y2 y3 y4; simp [results, Tryd.results13, go_sem, y0, y1, y2, y3, y4, y5, Itm.val], by unfold lineE; rw [HLR.out]; exact ⟨rfl, hg4⟩⟩
    · have h6 : ¬ (n : Int) = 5 := by omega
      have hne : ((n : Int) == 5) = false := by simpa using h6
      have HLR : Hid (lineR s = none) := Lib.hid (by unfold lineR; rw [HSP.out]; exact lineN_len (by rw [List.length_map, ← HN.out]; exact h5))
      clear h5
      gi_wp2
      obtain ⟨W3, hW3⟩ : ∃ W3, W3 = ((((((W.setCell ⟨b, 0, none⟩ (.int .i64 0)).setCell ⟨b, 1, none⟩ (.int .i64 0)).setCell ⟨b, 2, none⟩ (.int .i64 0)).setCell ⟨b, 3, none⟩ (.int .i64 0)).setCell ⟨b, 4, none⟩ (.int .i64 0)).setCell ⟨b + 1, 0, none⟩ (.iface 23 (.int .i64 3))) := ⟨_, rfl⟩
      have hX := zero_err HI.out HB.out.symm HLR.out hW3
      have hD3 : W3.heap[w2.heap.size]? = some (.deferred (some [])) := (hX.2 _ (by have := HG2.out.2.1; omega) (by have := HG2.out.2.1; omega)).trans HD.out
      rw [← hW3]
      clear hW3
      refine ⟨by simp, .inl ⟨_, _, rfl, run_takeDeferred hD3, ?_⟩⟩
      have hP := sav_put W3 w2.heap.size (.deferred none)
      have hX4 := hX.1.put HB.out.symm hP (by have := HG2.out.2.1; omega)
      obtain ⟨y0, y1, y2, y3, y4, _⟩ := zero_at hX4.it
      have y5 := hX4.er.c
      exact ⟨.tuple #[Itm.zero.val, .iface 23 (.int .i64 3)], by simp [results, Tryd.results13, go_sem, y0, y1, y2, y3, y4, y5, Itm.zero, Itm.val], by unfold lineE; rw [HLR.out]; exact ⟨rfl, hX4.gr⟩⟩
  case stop =>
    rintro W hX hD
    gi_wp2
    refine ⟨by simp, .inl ⟨_, _, rfl, run_takeDeferred hD, ?_⟩⟩
    have hP := sav_put W w2.heap.size (.deferred none)
    have hX4 := hX.put HB.out.symm hP (by have := HG2.out.2.1; omega)
    obtain ⟨y0, y1, y2, y3, y4, _⟩ := zero_at hX4.it
    have y5 := hX4.er.c
    exact ⟨.tuple #[Itm.zero.val, .iface 23 (.int .i64 3)], by simp [results, Tryd.results13, go_sem, y0, y1, y2, y3, y4, y5, Itm.zero, Itm.val], by unfold lineE; rw [hX4.no]; exact ⟨rfl, hX4.gr⟩⟩
end Go.Proofs.YtofhmbbodoedjaaDoor

/-
  A range over strings.SplitSeq.
-/
import Derived.Test.YtofhmbbodoedjaaDoorIpF
namespace Go.Proofs.YtofhmbbodoedjaaDoor
open Go Go.RowKit Go.Shelf
attribute [local go_sem] Oper.semAt_some

theorem sav_put (w : World) (r : Nat) (o : Obj) : Sav (fun q => q = r) w (w.putObj r o) :=
  ⟨rfl, rfl, rfl, by simp, fun _ _ h => World.putObj_heap_other h⟩
/-- What a round leaves as it lay: the iterator's boxes, the library's length, the loop's two blocks. -/
structure Keep (N bp bs bv : Nat) (w w' : World) : Prop where
  size : w.heap.size ≤ w'.heap.size
  p : w'.heap[bp]? = w.heap[bp]?
  s : w'.heap[bs]? = w.heap[bs]?
  v : w'.heap[bv]? = w.heap[bv]?
  m : w'.heap[2]? = w.heap[2]?
  d : w'.heap[N]? = w.heap[N]?
  l : w'.heap[N + 1]? = w.heap[N + 1]?
/-- How the body of a round may be left. -/
def ownR (N bp bs bv : Nat) (I : World → Prop) (Ix : World → Prop) (W : World) : Exit → Act → World → Prop
  | .normal, _, W' => Keep N bp bs bv W W' ∧ I W'
  | .ret, _, W' => Keep N bp bs bv W W' ∧ Ix W'
  | _, _, _ => False
theorem range_split {n : Nat} (hn : 1 ≤ n) {g : Operand} {ps : Array Tmp} {assign body : Code} {Q : Exit → Act → World → Prop} {a : Act} {w : World} {bp bs bv : Nat} {c t : ByteArray}
    (hg : a.eval g = .func (.func 33) #[] #[.pointer (some ⟨bp, 0, none⟩), .pointer (some ⟨bs, 0, none⟩), .pointer (some ⟨bv, 0, none⟩)]) (hps : ps.size = 1)
    (hc : c.size = 1) (h1 : bs ≠ bp) (h2 : bs ≠ bv) (h3 : bs ≠ 2) (ht : t.size ≤ 20001) (b1 : Bx w bp (.string c) 9) (b2 : Bx w bs (.string t) 9) (b3 : Bx w bv (.int .i64 0) 3) (hm : ∃ m, w.cell? ⟨2, 0, none⟩ = some (.int .i64 m))
    (I : List ByteArray → World → Prop) (Ix : World → Prop) (hI : ∀ L W W', I L W → Sav (fun q => q = bs ∨ q = w.heap.size ∨ q = w.heap.size + 1) W W' → I L W') (hIx : ∀ W W', Ix W → Sav (fun q => q = bs ∨ q = w.heap.size ∨ q = w.heap.size + 1) W W' → Ix W')
    (h0 : I (pcs c t) w) (a₁ : ByteArray → Act)
    (hassign : ∀ (l : Nat) (x : ByteArray) (W : World) (K : Act → World → Prop), K (a₁ x) W → assign.wpIn (Fence.wide.inRound l) (n - 1 - 1) Tryd.prog (Exit.then K (fun _ _ _ => False)) { tmps := (ps.zip #[Value.string x]).foldl (fun t (p, v) => t.setIfInBounds p v) a.tmps, defers := [] } W)
    (hbody : ∀ (l : Nat) (x : ByteArray) (L : List ByteArray) (W : World), I (x :: L) W → w.heap.size + 1 < W.heap.size → body.wpIn (Fence.wide.inRound l) (n - 1 - 1) Tryd.prog (ownR w.heap.size bp bs bv (I L) Ix W) (a₁ x) W)
    (hdone : ∀ (W : World), I [] W → W.heap[w.heap.size]? = some (.deferred (some [])) → Q .normal { a with defers := { target := .collected w.heap.size, args := #[] } :: a.defers } W)
    (hstop : ∀ (W : World), Ix W → W.heap[w.heap.size]? = some (.deferred (some [])) → Code.ret.wpIn Fence.wide n Tryd.prog Q { a with defers := { target := .collected w.heap.size, args := #[] } :: a.defers } W) :
    (Code.rangeFunc g ps assign body).wpIn Fence.wide n Tryd.prog Q a w := by
  refine wpIn_rangeFunc ?_
  intro fn hfn
  obtain ⟨rec, hrec⟩ : ∃ rec : LoopState → Option Code → Loop, rec = fun st pe => { state := st, pending := pe, fn, tmps := a.tmps, params := ps, assign, body, defers := w.heap.size } := ⟨_, rfl⟩
  obtain ⟨W1, hW1⟩ : ∃ W1, (w.alloc (.deferred (some []))).alloc (.loop (rec .ready none)) = W1 := ⟨_, rfl⟩
  have hs1 : (w.alloc (.deferred (some []))).heap.size = w.heap.size + 1 := by simp
  have hL1 : W1.heap[w.heap.size + 1]? = some (.loop (rec .ready none)) := by
    rw [← hW1, ← hs1]
    exact World.alloc_heap_new _ _
  have hg1 : Gr w W1 := by
    rw [← hW1]
    exact ((Gr.refl w).alloc _).alloc _
  have hD1 : W1.heap[w.heap.size]? = some (.deferred (some [])) := by
    rw [← hW1]
    exact (((Gr.refl _).alloc _).block (by rw [hs1]; omega)).trans (World.alloc_heap_new w _)
  have hI1 : I (pcs c t) W1 := hI _ _ _ h0 (.of_gr hg1)
  have lp := b1.lt
  have ls := b2.lt
  have lv := b3.lt
  obtain ⟨m0, hm0⟩ := hm
  have lm := cell_lt hm0
  simp only at lm
  refine ⟨w.heap.size + 1, [{ target := .collected w.heap.size, args := #[] }], W1, { target := .fn (.func 33) #[.pointer (some ⟨bp, 0, none⟩), .pointer (some ⟨bs, 0, none⟩), .pointer (some ⟨bv, 0, none⟩)], args := #[.func (.yield (w.heap.size + 1)) #[] #[]] }, W1, 33,
    #[.func (.yield (w.heap.size + 1)) #[] #[]] ++ #[.pointer (some ⟨bp, 0, none⟩), .pointer (some ⟨bs, 0, none⟩), .pointer (some ⟨bv, 0, none⟩)], W1, ?_, ?_, fun _ _ => trivial, ?_, fun _ => hn, ?_⟩
  · rw [← hW1, hrec]
    exact run_enterLoop_outer _ _ _ _ _
  · simp only [resolve, hg]
    simp [go_sem]
  · simp [invoke, go_sem]
  · refine (split_in (n - 1) (w.heap.size + 1) bp bs bv c hc h1 h2 h3
      (fun L W => I L W ∧ W.heap[w.heap.size + 1]? = some (.loop (rec .ready none)) ∧ W.heap[w.heap.size]? = some (.deferred (some [])))
      (fun W => Ix W ∧ W.heap[w.heap.size + 1]? = some (.loop (rec .done (some .ret))) ∧ W.heap[w.heap.size]? = some (.deferred (some [])))
      (fun L W x ⟨hi, hl, hd⟩ => ⟨hI _ _ _ hi ((Sav.set bs 0 _).mono fun _ h => .inl h), (set_other W _ (by omega)).trans hl, (set_other W _ (by omega)).trans hd⟩)
      ?_ t ht W1 (b1.gr hg1) (b2.gr hg1) (b3.gr hg1) ⟨m0, hg1.cell hm0⟩ ⟨hI1, hL1, hD1⟩).mono ?_
    · rintro x L W ⟨hi, hl, hd⟩
      have hlt : w.heap.size + 1 < W.heap.size := (Array.getElem?_eq_some_iff.1 hl).1
      have hy := run_yield (P := Tryd.prog) (args := #[Value.string x]) hl (by rw [hrec]; exact hps.symm)
      rw [hrec] at hy
      refine ⟨fn, _, assign, body, hy, roundIn_of_wpIn hfn (hassign _ x W _ ?_)⟩
      clear hy
      refine ⟨_, run_beginRound hl (by rw [hrec]), ?_⟩
      obtain ⟨W2, hW2⟩ : ∃ W2, W2 = W.putObj (w.heap.size + 1) (.loop { rec .ready none with state := .busy }) := ⟨_, rfl⟩
      rw [← hW2]
      have sv2 : Sav (fun q => q = bs ∨ q = w.heap.size ∨ q = w.heap.size + 1) W W2 := by
        rw [hW2]
        exact (sav_put W _ _).mono fun _ h => .inr (.inr h)
      have hl2 : W2.heap[w.heap.size + 1]? = some (.loop { rec .ready none with state := .busy }) := by rw [hW2]; exact World.putObj_heap_same hlt
      have hb2 : ∀ q, q ≠ w.heap.size + 1 → W2.heap[q]? = W.heap[q]? := fun q hq => by rw [hW2]; exact World.putObj_heap_other hq
      have hsz2 : W2.heap.size = W.heap.size := by rw [hW2]; simp
      refine wpIn_mono (hbody _ x L W2 (hI _ _ _ hi sv2) (by omega)) ?_
      have fin : ∀ (jump : Option Code) (W3 : World), Keep w.heap.size bp bs bv W2 W3 →
          (Instr.endRound (w.heap.size + 1) jump).run Tryd.prog W3 = .ok (.bool jump.isNone) (W3.putObj (w.heap.size + 1) (.loop (rec (if jump.isNone then .ready else .done) jump))) ∧
          (W3.putObj (w.heap.size + 1) (.loop (rec (if jump.isNone then .ready else .done) jump))).heap[w.heap.size + 1]? = some (.loop (rec (if jump.isNone then .ready else .done) jump)) ∧
          (W3.putObj (w.heap.size + 1) (.loop (rec (if jump.isNone then .ready else .done) jump))).heap[w.heap.size]? = some (.deferred (some [])) := fun jump W3 hk => by
        have hl3 := hk.l.trans hl2
        have hr := run_endRound (P := Tryd.prog) jump hl3
        rw [hrec] at hr ⊢
        exact ⟨hr, World.putObj_heap_same (Array.getElem?_eq_some_iff.1 hl3).1, (World.putObj_heap_other (by omega)).trans ((hk.d.trans (hb2 _ (by omega))).trans hd)⟩
      rintro e a3 W3 hp
      cases e with
      | normal =>
        obtain ⟨hk, hi3⟩ := hp
        obtain ⟨hr, hl4, hd4⟩ := fin none W3 hk
        have ho : ∀ q, q ≠ w.heap.size + 1 → W3.heap[q]? = W2.heap[q]? → (W3.putObj (w.heap.size + 1) (.loop (rec (if (none : Option Code).isNone then .ready else .done) none))).heap[q]? = W.heap[q]? := fun q hq e => ((World.putObj_heap_other hq).trans e).trans (hb2 q hq)
        exact ⟨_, _, hr, .inl ⟨rfl, ⟨hI _ _ _ hi3 ((sav_put W3 _ _).mono fun _ h => .inr (.inr h)), hl4, hd4⟩, ⟨ho _ (by omega) hk.p, ho _ (by omega) hk.s, ho _ (by omega) hk.v, ho _ (by omega) hk.m⟩⟩⟩
      | ret =>
        obtain ⟨hk, hi3⟩ := hp
        obtain ⟨hr, hl4, hd4⟩ := fin (some .ret) W3 hk
        exact ⟨_, _, hr, .inr ⟨rfl, hIx _ _ hi3 ((sav_put W3 _ _).mono fun _ h => .inr (.inr h)), hl4, hd4⟩⟩
      | exit id => exact hp.elim
      | goto t => exact hp.elim
      | panic ch => exact hp.elim
      | outgrown => exact hp.elim
    · rintro e W2 ⟨⟨v, rfl⟩, (⟨hi, hl, hd⟩ | ⟨hi, hl, hd⟩)⟩
      · exact ⟨none, _, by have := run_endLoop (P := Tryd.prog) hl (by rw [hrec]; simp); rw [hrec] at this; exact this, hdone _ (hI _ _ _ hi ((sav_put W2 _ _).mono fun _ h => .inr (.inr h))) ((World.putObj_heap_other (by omega)).trans hd)⟩
      · exact ⟨some .ret, _, by have := run_endLoop (P := Tryd.prog) hl (by rw [hrec]; simp); rw [hrec] at this; exact this, hstop _ (hIx _ _ hi ((sav_put W2 _ _).mono fun _ h => .inr (.inr h))) ((World.putObj_heap_other (by omega)).trans hd)⟩
end Go.Proofs.YtofhmbbodoedjaaDoor

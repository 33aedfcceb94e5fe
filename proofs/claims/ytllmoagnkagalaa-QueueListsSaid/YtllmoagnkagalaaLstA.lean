/-
  slices.Clone and queue.List.All.
-/
import Derived.Test.YtllmoagnkagalaaLst
namespace Go.Proofs.Ytllmoagnkagalaa
open Go.RowKit Go.Extern.Stop Go.Stop Go.Extern

theorem slice_is_nil (n c : Nat) (w : World) : (binOp .eql 23 (.slice none n c) (.slice none 0 0)).run Try.prog w = .ok (.bool true) w := by kernel_rfl
theorem slice_no_nil (ad : Addr) (n c : Nat) (w : World) : (binOp .eql 23 (.slice (some ad) n c) (.slice none 0 0)).run Try.prog w = .ok (.bool false) w := by kernel_rfl
set_option maxRecDepth 100000 in
set_option maxHeartbeats 4000000 in
/-- slices.Clone. -/
theorem clone_any (v : Value) (xs : List Hel) (w : World) (h : RowH 32 w v xs) (hn : xs.length ≤ 999990) : Calls Try.prog 11 #[v] w fun e w' => ∃ v', e = .returned v' ∧ RowH 32 w' v' xs ∧ Gr w w' ∧ ∀ g, v'.ownBlock = some g → w.heap.size ≤ g := by
  obtain ⟨ba, cap, rfl, h1, h2, h3⟩ := h.any
  cases ba with
  | none =>
    have hx : xs = [] := by
      cases xs with
      | nil => rfl
      | cons x xs => obtain ⟨b, off, e, _⟩ := h3.out (by simp); cases e
    subst hx
    have hnl := slice_is_nil 0 cap w
    rw [show ([] : List Hel).length = 0 from rfl]
    go_enter Try.func11, Try.ntmps11
    go_wp2
    go_ret
    exact ⟨_, rfl, RowH.nil _ _, Gr.refl _, fun g hg => by cases hg⟩
  | some ad =>
    have H := Lib.hid h
    clear h h3
    have hnl := slice_no_nil ad xs.length cap w
    go_enter Try.func11, Try.ntmps11
    obtain ⟨i0, hi0, hz0, hz1, hz2⟩ := info_parts heldInfo
    cases xs with
    | nil =>
      rw [show ([] : List Hel).length = 0 from rfl] at *
      go_wp2_with (at_builtin; refine wpList_append_row0 rfl _ _ _ (by rfl) i0 Try.underlying23 hi0 w.heap.size 0 0 0 (by rfl) (Nat.le_refl _) ad cap (by rfl) ?_)
      go_ret
      exact ⟨_, rfl, RowH.empty rfl, (Gr.refl _).alloc _, fun g hg => by simp [Value.ownBlock] at hg; omega⟩
    | cons x xs =>
      obtain ⟨b, off, hd⟩ : ∃ b off, ad = ⟨b, off, none⟩ := by
        obtain ⟨a1, c1, e, _, _, h3⟩ := H.out.any
        obtain ⟨b, off, e2, _⟩ := h3.out (by simp)
        rw [e2] at e
        cases e
        exact ⟨b, off, rfl⟩
      subst hd
      have HC := Lib.hid (fun u (k : Gr w u) => (H.out.gr k).all)
      have hnl := slice_no_nil ⟨b, off, none⟩ (xs.length + 1) cap w
      have HE := Lib.hid (RowH.empty (E := 32) (w := w) rfl)
      go_wp2_with (at_builtin; (refine wpList_append_rowH rfl _ _ _ (by rfl) i0 Hel.zero.val Try.underlying23 hi0 hz0 hz1 hz2 rfl ?c1 (by rfl) HE.out ⟨b, off, none⟩ cap (x :: xs) (by rfl) (by simp) (HC.out _ ((Gr.refl _).alloc _)) ?c2 ?_; (case c1 => (intro u hu; exact (cells_int Hel.zero u (by simpa [Hel.val, Value.cells, Hel.cells] using hu)).2)); (case c2 => (simp at hn ⊢; omega)); intro v' w' hrow hgr hown hold; have HROW := Lib.hid hrow; have HGR := Lib.hid hgr; have HOWN := Lib.hid hown; clear hrow hgr hown hold))
      go_ret
      refine ⟨_, rfl, by simpa using HROW.out, ((Gr.refl w).alloc _).grown HGR.out (fun k hk => by simp [Value.ownBlock] at hk; omega), fun g hg => ?_⟩
      rcases HOWN.out g hg with h | h
      · simp [Value.ownBlock] at h; omega
      · simp at h; omega
set_option maxHeartbeats 4000000 in
theorem lall_any (p o : Nat) (v : Value) (xs : List Hel) (w : World) (h : LstAt w p o v xs) (hn : xs.length ≤ 999990) : Calls Try.prog 8 #[.pointer (some ⟨p, o, none⟩)] w fun e w' => ∃ v', e = .returned v' ∧ RowH 32 w' v' xs ∧ Gr w w' ∧ ∀ g, v'.ownBlock = some g → w.heap.size ≤ g := by
  have HC := Lib.hid (clone_any v xs w h.row hn)
  obtain ⟨ba, cap, rfl⟩ := h.shape
  have c0 := h.c0
  clear h
  go_enter Try.func8, Try.ntmps8
  go_wp2_with (go_at_call 11; (with_reducible refine HC.out.mono ?_); rintro e w1 ⟨v', rfl, hr, hg, ho⟩; have HR := Lib.hid hr; have HG := Lib.hid hg; have HO := Lib.hid ho; clear hr hg ho)
  go_ret
  exact ⟨_, rfl, HR.out, HG.out, HO.out⟩
end Go.Proofs.Ytllmoagnkagalaa

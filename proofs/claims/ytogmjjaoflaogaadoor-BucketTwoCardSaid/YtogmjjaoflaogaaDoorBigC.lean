/-
  millracebig's words: twin, words, small.
-/
import Derived.Test.YtogmjjaoflaogaaDoorBigB
import Derived.Laws.AppendOwnNone
namespace Go.Proofs.YtogmjjaoflaogaaDoor
open Go.RowKit

theorem Addr.add0 (g i : Nat) : Addr.add ⟨g, 0, none⟩ i = ⟨g, i, none⟩ := by unfold Addr.add; split <;> simp_all

set_option maxRecDepth 100000 in
set_option maxHeartbeats 4000000 in
theorem twin_any {v : Value} {N : Nat} (w : World) (h : Num w v N) :
    Calls Tryd.prog 81 #[v] w fun e w' => Gives N e w' ∧ Gr w w' := by
  obtain ⟨n, f, hW, hT, hV⟩ := h
  have HW := Lib.hid hW
  have HF := Lib.hid hW.w32
  obtain ⟨a, cap, rfl, ⟨hcap, hcap2⟩, hA1, _⟩ := hW
  have HA1 := Lib.hid hA1
  have HT := Lib.hid hT
  have HV := Lib.hid hV
  clear hA1 hT hV
  obtain ⟨i0, hi, hz0, hz1, hz2⟩ := info_parts info_u32
  have HN : Hid (w.ownsRow w.heap.size 139 1 (.slice none 0 0) 0 []) := Lib.hid (World.ownsRow_nil _ _ _ 1)
  rcases Nat.eq_zero_or_pos n with h0 | h0
  · subst h0
    have HZ : Hid (0 = N) := Lib.hid (by have := HV.out; simp [V] at this; omega)
    cases a with
    | none =>
      have := hcap2 rfl
      subst this
      go_enter Tryd.func81, Tryd.ntmps81
      go_wp2_with (at_builtin; refine wpList_append_own_none (by rfl) _ _ _ (by rfl) w.heap.size 139 i0 1 (by kernel_rfl) hi _ 0 [] (by rfl) HN.out (by rfl) ?_)
      go_ret
      exact ⟨.mk (by rw [← HZ.out]; exact Num.zero _), Gr.refl _⟩
    | some ad =>
      go_enter Tryd.func81, Tryd.ntmps81
      go_wp2_with (at_builtin; refine wpList_append_own w (by rfl) _ _ _ (by rfl) w.heap.size 139 i0 (.int .u32 0) 1 4 (by kernel_rfl) hi hz0 hz1 hz2 (by rfl) (by decide) _ 0 [] (by rfl) HN.out ad 0 cap [] (by rfl) (by simp) (fun _ _ h => by simp at h) (fun _ h => by simp at h) (by unfold maxLen; omega) (by omega) (Nat.le_refl _) ?c5)
      case c5 =>
        intro r w1 hown hg hz
        have HG : Hid (Gr w w1) := Lib.hid ((Gr.refl w).grown hg (fun k hk => by cases hk))
        obtain rfl : r = .slice none 0 0 := by simpa using hz
        clear hown hg hz
        go_wp2
        go_ret
        exact ⟨.mk (by rw [← HZ.out]; exact Num.zero _), HG.out⟩
  · obtain ⟨g, rfl, hC⟩ := HA1.out h0
    have HC := Lib.hid hC
    clear hC
    go_enter Tryd.func81, Tryd.ntmps81
    go_wp2_with (at_builtin; refine wpList_append_own w (by rfl) _ _ _ (by rfl) w.heap.size 139 i0 (.int .u32 0) 1 4 (by kernel_rfl) hi hz0 hz1 hz2 (by rfl) (by decide) _ 0 [] (by rfl) HN.out ⟨g, 0, none⟩ n cap ((fnList f n).map (Value.int .u32)) (by rfl) (by simp [fnList_len]) ?c1 ?c2 (by unfold maxLen; omega) (by omega) (Nat.le_refl _) ?c5)
    case c1 =>
      intro j u hj
      rw [Addr.add0]
      rcases Nat.lt_or_ge j n with h1 | h1
      · simp [fnList, h1] at hj
        subst hj
        exact HC.out _ h1
      · rw [List.getElem?_eq_none (by simp [fnList_len]; omega)] at hj
        cases hj
    case c2 => intro u hu; simp at hu; obtain ⟨x, _, rfl⟩ := hu; rfl
    case c5 =>
      intro r w1 hown hg _
      have HO := Lib.hid hown
      have HG : Hid (Gr w w1) := Lib.hid ((Gr.refl w).grown hg (fun k hk => by cases hk))
      clear hown hg
      go_wp2
      go_ret
      refine ⟨.mk ⟨n, f, ?_, HT.out, HV.out⟩, HG.out⟩
      have hO := HO.out
      obtain ⟨_, h2⟩ := HO.out
      rcases h2 with ⟨_, h2⟩ | ⟨g', cap', cur, rfl, _, _, h4, h5, _⟩
      · omega
      · refine ⟨_, _, rfl, ⟨⟨h4, by omega, by unfold maxLen at h5; omega⟩, fun e => by cases e⟩, fun _ => ⟨g', rfl, fun i hi => ?_⟩, HF.out⟩
        have hc := World.ownsRow.cells (w := w1) hO (g := g') rfl i (.int .u32 (f i)) (by simp [fnList, hi])
        rw [Addr.add0] at hc
        exact hc

theorem V_two (x : Nat) (hx : x < 18446744073709551616) : W32 (fun i => if i = 0 then (x : Int) % 4294967296 else (x : Int) / 4294967296) 2 ∧ V (fun i => if i = 0 then (x : Int) % 4294967296 else (x : Int) / 4294967296) 2 = (x : Int) := by
  refine ⟨fun i _ => ?_, ?_⟩
  · show 0 ≤ (if i = 0 then (x : Int) % 4294967296 else (x : Int) / 4294967296) ∧ (if i = 0 then (x : Int) % 4294967296 else (x : Int) / 4294967296) < 4294967296
    split <;> omega
  · simp [V, Bp]
    omega

set_option maxRecDepth 100000 in
set_option maxHeartbeats 4000000 in
theorem words_any (x : Nat) (w : World) (hx : x < 18446744073709551616) :
    Calls Tryd.prog 85 #[.int .u64 (x : Int)] w fun e w' => Gives x e w' ∧ Gr w w' := by
  have hx' : (x : Int) < 18446744073709551616 := by omega
  have HX := Lib.hid (V_two x hx)
  have HG : Hid (Gr w (w.alloc (.cells #[.int .u32 ((x : Int) % 4294967296), .int .u32 ((x : Int) / 4294967296)] 139))) := Lib.hid ((Gr.refl w).alloc _)
  have HW : Hid (Wds (w.alloc (.cells #[.int .u32 ((x : Int) % 4294967296), .int .u32 ((x : Int) / 4294967296)] 139)) (.slice (some ⟨w.heap.size, 0, none⟩) 2 2) 2 (fun i => if i = 0 then (x : Int) % 4294967296 else (x : Int) / 4294967296)) :=
    Lib.hid ⟨_, _, rfl, ⟨by omega, fun e => by cases e⟩, fun _ => ⟨_, rfl, fun i hi => by
      have hh : i = 0 ∨ i = 1 := by omega
      rcases hh with rfl | rfl <;> simp⟩, HX.out.1⟩
  clear hx
  go_enter Tryd.func85, Tryd.ntmps85
  go_wp2_with (go_at_call 76; refine (trim_any _ HW.out HX.out.2).mono ?_; rintro e w' ⟨⟨r', rfl, hr⟩, rfl⟩)
  go_ret
  exact ⟨.mk hr, HG.out⟩
end Go.Proofs.YtogmjjaoflaogaaDoor

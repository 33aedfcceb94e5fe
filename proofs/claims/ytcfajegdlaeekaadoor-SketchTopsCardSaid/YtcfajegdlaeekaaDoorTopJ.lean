/-
  The program's Top, walked.
-/
import Derived.Test.YtcfajegdlaeekaaDoorTopI
import Derived.Maps.OwnSet
import Derived.BigGuardPart
namespace Go.Proofs.YtcfajegdlaeekaaDoor
open Go Go.RowKit Go.Maps

theorem MapR.congr {w : World} {b r n cnt : Nat} {f f' : Int → Int} {g g' left left' : Int → Bool} (h : MapR w b r n f g left cnt) (e : f = f') (e2 : g = g') (e3 : left = left') : MapR w b r n f' g' left' cnt := by rw [← e, ← e2, ← e3]; exact h
theorem fI_same {β : Type} {f : Int → β} {k : Int} {x : β} (h : f k = x) : fI f k x = f := by
  funext j
  by_cases e : j = k
  · subst e; rw [fI_at, h]
  · rw [fI_ne _ _ e]
theorem fI_fI {β : Type} {f : Int → β} {k : Int} {x y : β} : fI (fI f k x) k y = fI f k y := by
  funext j
  by_cases e : j = k
  · subst e; rw [fI_at, fI_at]
  · rw [fI_ne _ _ e, fI_ne _ _ e, fI_ne _ _ e]
/-- A round in which all counters go down. -/
structure DnAt (w wr : World) (b r n : Nat) (f : Int → Int) (left : Int → Bool) (cnt : Nat) : Prop where
  mp : MapR wr b r n (dnF f left) (has_ (dnF f left)) left cnt
  gr : Gr w wr
theorem dnF_in {f : Int → Int} {left : Int → Bool} {x : Int} (h : left x = true) : dnF f left x = f x := by simp [dnF, h]
theorem DnAt.come {w wr : World} {b r n : Nat} {f : Int → Int} {left : Int → Bool} {cnt : Nat} (h : DnAt w wr b r n f left cnt) {x : Int} (hx : left x = true) : f x ≠ 0 := by
  have := h.mp.come hx
  rw [← dnF_in (f := f) hx]
  simpa [has_] using this
theorem DnAt.hasx {w wr : World} {b r n : Nat} {f : Int → Int} {left : Int → Bool} {cnt : Nat} (h : DnAt w wr b r n f left cnt) {x : Int} (hx : left x = true) : has_ (dnF f left) x = true := h.mp.come hx
theorem dn_keep {w : World} {b r n cnt : Nat} {f : Int → Int} {left : Int → Bool} {x : Int} (hx : f x ≠ 0) (hl : left x = true) (m : MapR w b r n (fI (dnF f left) x (f x - 1)) (has_ (dnF f left)) (fI left x false) cnt) (hv : f x - 1 ≠ 0) : MapR w b r n (dnF f (fI left x false)) (has_ (dnF f (fI left x false))) (fI left x false) cnt := by
  refine m.congr (dnF_step hx) ?_ rfl
  rw [← dnF_step hx, has_fI hv, fI_same]
  simp [has_, dnF_in hl, hx]
theorem dn_drop {w : World} {b r n cnt : Nat} {f : Int → Int} {left : Int → Bool} {x : Int} (hx : f x ≠ 0) (hv : f x - 1 = 0) (m : MapR w b r n (fI (fI (dnF f left) x (f x - 1)) x 0) (fI (has_ (dnF f left)) x false) (fI (fI left x false) x false) cnt) : MapR w b r n (dnF f (fI left x false)) (has_ (dnF f (fI left x false))) (fI left x false) cnt := by
  have e : fI (fI (dnF f left) x (f x - 1)) x 0 = dnF f (fI left x false) := by rw [fI_fI, ← hv, dnF_step hx]
  refine m.congr e ?_ fI_fI
  rw [← e, has_fI0, hv]
  funext j
  by_cases h : j = x
  · subst h; rw [fI_at, fI_at]
  · rw [fI_ne _ _ h, fI_ne _ _ h]
    simp [has_, fI_ne _ _ h]
theorem DnAt.done {w wr : World} {b r n : Nat} {f : Int → Int} {left : Int → Bool} {cnt : Nat} (h : DnAt w wr b r n f left cnt) (hd : ∀ k, left k = false) : CMap wr b (n + 1) (down1 f) := by
  have e := dnF_end (f := f) hd
  have h1 := h.mp.owns
  rw [e] at h1
  exact MapI.mono h1 (Nat.le_succ n)

/-- delete(m, k), its result thrown away. -/
theorem wpList_del0_mapR {w : World} {ops : Array Oper} {rest : List Oper} {o : Oper} {a : Act} {Q : Exit → Act → World → Prop} {b r n cnt : Nat} {f : Int → Int} {g left : Int → Bool} (hg : o.guard = none) (hd : o.dst = none) (m x : Operand) (hop : o.op = Op.call { callee := Callee.builtin Builtin.delete, args := #[m, x], argTypes := #[23, 3] }) (hm : a.eval m = .map (some b)) (h : MapR w b r n f g left cnt) (k : Int) (hx : a.eval x = .int .i64 k) (hk : Bd k)
    (hK : ∀ w' cnt', MapR w' b r n (fI f k 0) (fI g k false) (fI left k false) cnt' → cnt' ≤ cnt → Sav (fun q => q = b) w w' → wpList Tryd.prog ops Q rest a w') : wpList Tryd.prog ops Q (o :: rest) a w :=
  wpList_del_mapR hg m x hop hm h k hx hk fun w' cnt' h1 h2 h3 => by rw [hd]; exact hK w' cnt' h1 h2 h3

set_option maxRecDepth 100000 in
set_option maxHeartbeats 4000000 in
theorem top_any {w : World} {kv : Value} {ks : List Int} {c : Int} (hk : Ints w kv ks) (hb : ∀ x ∈ ks, Bd x) (hl : ks.length ≤ 200) (c1 : 1 ≤ c) (c2 : c ≤ 100) :
    Calls Tryd.prog 5 #[kv, .int .i64 c] w fun e w' => ∃ v L, e = .returned (.tuple #[v, .nilIface]) ∧ PRow 44 w' v L ∧ PairsOf (mgF c ks ks.length) L ∧ L.length ≤ 1000 ∧ Gr w w' := by
  have HK := Lib.hid hk
  obtain ⟨ka, kc, rfl⟩ := ints_shape hk
  have HB := Lib.hid hb
  clear hk hb
  obtain ⟨n, hn⟩ : ∃ n, n = ks.length := ⟨_, rfl⟩
  rw [← hn] at hl ⊢
  have HN := Lib.hid hn
  clear hn
  have HM0 := Lib.hid (CMap.made w)
  have hmm := @run_makeMap Tryd.prog
  go_enter Tryd.func5, Tryd.ntmps5
  go_wp2
  all_goals (try (exfalso; omega))
  obtain ⟨b, hb⟩ : ∃ b, b = w.heap.size := ⟨_, rfl⟩
  rw [← hb] at HM0 ⊢
  have HBB := Lib.hid hb
  clear hb
  go_loopw [22] (fun s wr => ∃ i : Nat, i ≤ n ∧ s = .int .i64 (i : Int) ∧ Hid (CMap wr b i (mgF c ks i)) ∧ Hid (Gr w wr)) (fun s _ => n - (intOf s).toNat)
  case atStart => exact ⟨0, Nat.zero_le _, rfl, HM0, Lib.hid ((Gr.refl w).alloc _)⟩
  case round =>
    obtain ⟨i, hi, rfl, HC, HG⟩ := hrel
    by_cases hlt : i < n
    · have hlk : i < ks.length := by rw [← HN.out]; exact hlt
      obtain ⟨kb, ko, kc', e, hcell⟩ := ints_cells HK.out (by omega)
      cases e
      have c0 := HG.out.cell (hcell.out i hlk)
      have HX := Lib.hid (HB.out _ (getD_mem hlk))
      have HF := Lib.hid (mgF_in c ks i)
      have HS : Hid (mgF c ks (i + 1) = mgStep c (mgF c ks i) (ks.getD i 0)) := Lib.hid rfl
      generalize mgF c ks i = f at *
      generalize ks.getD i 0 = x at *
      have i0 : (0 : Int) ≤ (i : Int) := by omega
      have i1 : (i : Int) < (n : Int) := by omega
      have HW : Hid (wrap64 (f x + 1) = f x + 1) := Lib.hid (by have := HF.out x; unfold wrap64; omega)
      clear hcell hlk
      by_cases hfx : f x = 0
      · have HGX : Hid (has_ f x = false) := Lib.hid (by simp [has_, hfx])
        have HFX := Lib.hid hfx
        clear hfx
        obtain ⟨m, hd, hm, hlen⟩ := MapI.dom HC.out
        have HD := Lib.hid (domN_eq hd)
        clear hd
        go_wp2_with (first
          | (at_lookup; refine wpList_look2_mapI (by rfl) _ _ (by rfl) (by rfl) HC.out x (by rfl) HX.out ?_; rw [HGX.out])
          | (at_lookup; refine wpList_look_mapI (by rfl) _ _ (by rfl) b i f (has_ f) (by rfl) HC.out x (by rfl) HX.out ?_)
          | (at_mapUpdate; rw [HW.out]; (refine wpList_set_mapI (by rfl) _ _ _ (by rfl) b i f (has_ f) (by rfl) HC.out (by omega) x (f x + 1) (by rfl) (by rfl) HX.out (by have := HF.out x; unfold Bd; omega) ?_); intro w2 hm2 _ hs2; have HM2 := Lib.hid (CMap.bump hm2 (HF.out x).1); have HG2 := Lib.hid (hs2.gr HG.out (fun q e => by rw [e, HBB.out]; exact Nat.le_refl _)); clear hm2 hs2)
          | (at_range; refine wpList_range_mapI (by rfl) _ (by rfl) (by rfl) HC.out ?_; intro w0 cnt0 hmr hgr hsz; have HR0 := Lib.hid hmr; have HG0 := Lib.hid (HG.out.trans hgr); clear hmr hgr hsz)
          | go_in)
        · have HMC : Hid ((m : Int) < c) := Lib.hid (by omega)
          go_roundw
          case rel => exact ⟨i + 1, by omega, by go_num, by rw [HS.out]; unfold mgStep; rw [if_pos (.inr (by rw [HD.out]; exact HMC.out))]; exact HM2, HG2⟩
          case measure => simp [intOf]; omega
        · have hmc : ¬ (m : Int) < c := by omega
          have HST : Hid (mgStep c f x = down1 f) := Lib.hid (by
            unfold mgStep
            rw [if_neg]
            rintro (h | h)
            · exact h HFX.out
            · exact hmc (by rw [HD.out] at h; exact h))
          clear hmc
          obtain ⟨r, hr⟩ : ∃ r, r = wr.heap.size := ⟨_, rfl⟩
          rw [← hr] at HR0 ⊢
          have HRS : Hid (w.heap.size ≤ r) := Lib.hid (by rw [hr]; exact HG.out.size)
          clear hr
          have HR1 : Hid (DnAt w w0 b r i f (has_ f) cnt0) := Lib.hid ⟨by rw [dnF_start]; exact HR0.out, HG0.out⟩
          obtain ⟨wo, hwo⟩ : ∃ u, u = wr := ⟨_, rfl⟩
          subst hwo
          go_frame
          go_loopw [11] (fun _ wi => ∃ left cnt, Hid (DnAt w wi b r i f left cnt)) (fun _ wi => wi.rangeLeft b r)
          case atStart => exact ⟨_, _, HR1⟩
          case round =>
            obtain ⟨left, cnt, HS2⟩ := hrel
            go_wp2_with (first
              | (at_next; refine wpList_next_mapR (by rfl) _ (by rfl) (by rfl) HS2.out.mp ?_ ?_)
              | go_in)
            · intro hl0
              have HL := Lib.hid hl0
              clear hl0
              go_wp2
              go_roundw
              case rel => exact ⟨i + 1, by omega, by go_num, by rw [HS.out, HST.out]; exact Lib.hid (HS2.out.done HL.out), Lib.hid HS2.out.gr⟩
              case measure => simp [intOf]; omega
            · intro y w1 cnt1 hby hly hmr hlt2 hsv hsz hen
              have H1 := Lib.hid (And.intro hby (And.intro hly (And.intro hmr (And.intro hlt2 hsv))))
              clear hby hly hlt2 hsz
              have HG1 := Lib.hid (hsv.gr HS2.out.gr fun q e => by rw [e]; exact HRS.out)
              have HM1 := Lib.hid hmr
              clear hmr hsv
              have HY : Hid (f y ≠ 0) := Lib.hid (HS2.out.come H1.out.2.1)
              have HV : Hid (dnF f left y = f y) := Lib.hid (dnF_in H1.out.2.1)
              obtain ⟨z, hz⟩ : ∃ z, z = f y := ⟨_, rfl⟩
              rw [← hz] at HV
              have HW2 : Hid (wrap64 (z - 1) = z - 1) := Lib.hid (by have := HF.out y; have := HY.out; unfold wrap64; omega)
              have HZB : Hid (Bd (z - 1)) := Lib.hid (by have := HF.out y; have := HY.out; unfold Bd; omega)
              have HZ := Lib.hid hz
              clear hz
              go_wp2_with (first
                | (at_lookup; refine wpList_look_mapI (by rfl) _ _ (by rfl) b i _ _ (by rfl) HM2.out.owns y (by rfl) H1.out.1 ?_; rw [fI_at])
                | (at_lookup; refine wpList_look_mapI (by rfl) _ _ (by rfl) b i _ _ (by rfl) HM1.out.owns y (by rfl) H1.out.1 ?_; rw [HV.out])
                | (at_mapUpdate; rw [HW2.out]; refine wpList_set_mapR (by rfl) _ _ _ (by rfl) (by rfl) HM1.out (by omega) y (z - 1) (by rfl) (by rfl) H1.out.1 HZB.out (HS2.out.hasx H1.out.2.1) ?_; intro w2 hm2 hs2; have HM2 := Lib.hid hm2; have HG2 := Lib.hid (hs2.gr HG1.out (fun q e => by rw [e, HBB.out]; exact Nat.le_refl _)); clear hm2 hs2)
                | (at_delete; refine wpList_del0_mapR (by rfl) (by rfl) _ _ (by rfl) (by rfl) HM2.out y (by rfl) H1.out.1 ?_; intro w3 cnt3 hm3 hc3 hs3; have HM3 := Lib.hid hm3; have HC3 := Lib.hid hc3; have HG3 := Lib.hid (hs3.gr HG2.out (fun q e => by rw [e, HBB.out]; exact Nat.le_refl _)); clear hm3 hc3 hs3)
                | go_in)
              · have HZ1 : Hid (z - 1 = 0) := by
                  rename_i hz1
                  exact Lib.hid (by simpa using hz1)
                have HEND : Hid (DnAt w w3 b r i f (fI left y false) cnt3) := Lib.hid ⟨dn_drop HY.out (by rw [← HZ.out]; exact HZ1.out) (by rw [← HZ.out]; exact HM3.out), HG3.out⟩
                go_roundw
                case rel => exact ⟨_, _, HEND⟩
                case measure => rw [HEND.out.mp.left_eq, HS2.out.mp.left_eq]; exact Nat.lt_of_le_of_lt HC3.out H1.out.2.2.2.1
              · have HZ1 : Hid (z - 1 ≠ 0) := by
                  rename_i hz1
                  exact Lib.hid (by simpa using hz1)
                have HEND : Hid (DnAt w w2 b r i f (fI left y false) cnt1) := Lib.hid ⟨dn_keep HY.out H1.out.2.1 (by rw [← HZ.out]; exact HM2.out) (by rw [← HZ.out]; exact HZ1.out), HG2.out⟩
                go_roundw
                case rel => exact ⟨_, _, HEND⟩
                case measure => rw [HEND.out.mp.left_eq, HS2.out.mp.left_eq]; exact H1.out.2.2.2.1
      · have HGX : Hid (has_ f x = true) := Lib.hid (by simp [has_, hfx])
        have HFX := Lib.hid hfx
        clear hfx
        go_wp2_with (first
          | (at_lookup; refine wpList_look2_mapI (by rfl) _ _ (by rfl) (by rfl) HC.out x (by rfl) HX.out ?_; rw [HGX.out])
          | (at_lookup; refine wpList_look_mapI (by rfl) _ _ (by rfl) b i f (has_ f) (by rfl) HC.out x (by rfl) HX.out ?_)
          | (at_mapUpdate; rw [HW.out]; (refine wpList_set_mapI (by rfl) _ _ _ (by rfl) b i f (has_ f) (by rfl) HC.out (by omega) x (f x + 1) (by rfl) (by rfl) HX.out (by have := HF.out x; unfold Bd; omega) ?_); intro w2 hm2 _ hs2; have HM2 := Lib.hid (CMap.bump hm2 (HF.out x).1); have HG2 := Lib.hid (hs2.gr HG.out (fun q e => by rw [e, HBB.out]; exact Nat.le_refl _)); clear hm2 hs2)
          | go_in)
        go_roundw
        case rel => exact ⟨i + 1, by omega, by go_num, by rw [HS.out]; unfold mgStep; rw [if_pos (.inl HFX.out)]; exact HM2, HG2⟩
        case measure => simp [intOf]; omega
    · obtain rfl : i = n := by omega
      go_wp2_with (first
        | (go_at_call 10; refine (sorted_any b i (mgF c ks i) _ HC.out (by omega)).mono ?_; rintro e w2 ⟨v, L, rfl, h1, h2, h3, h4⟩; have H2 := Lib.hid (And.intro h1 (And.intro h2 (And.intro h3 h4))); clear h1 h2 h3 h4)
        | go_in)
      exact bodyPost_ret (v := .tuple #[_, .nilIface]) (by simp [results, Tryd.results5, go_sem]) rfl ⟨_, L, rfl, H2.out.1, H2.out.2.1, H2.out.2.2.1, HG.out.trans H2.out.2.2.2⟩
end Go.Proofs.YtcfajegdlaeekaaDoor

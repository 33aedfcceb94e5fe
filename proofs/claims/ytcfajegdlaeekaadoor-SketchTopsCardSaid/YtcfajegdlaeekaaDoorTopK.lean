/-
  The reference's Top, walked.
-/
import Derived.Test.YtcfajegdlaeekaaDoorTopH
import Derived.Test.YtcfajegdlaeekaaDoorTopJ
namespace Go.Proofs.YtcfajegdlaeekaaDoor
open Go Go.RowKit Go.Maps

theorem dom_sub {g g' : Int → Bool} {k m : Nat} (h : Dom g k) (h' : Dom g' m) (hs : ∀ x, g x = true → g' x = true) : k ≤ m := by
  obtain ⟨a, a1, a2, rfl⟩ := h
  obtain ⟨b, b1, b2, rfl⟩ := h'
  exact nodup_le a1 fun x hx => (b2 x).2 (hs x ((a2 x).1 hx))
/-- A round in which all counters go down into another map, d. -/
structure UpAt (w wr : World) (b r d n : Nat) (f : Int → Int) (left : Int → Bool) (cnt : Nat) : Prop where
  mp : MapR wr b r n f (has_ f) left cnt
  up : MapI wr d n (upF f left) (has_ (upF f left))
  fr : w.heap.size ≤ d
  it : w.heap.size ≤ r
  db : d ≠ b
  dr : d ≠ r
  gr : Gr w wr
theorem UpAt.come {w wr : World} {b r d n : Nat} {f : Int → Int} {left : Int → Bool} {cnt : Nat} (h : UpAt w wr b r d n f left cnt) {x : Int} (hx : left x = true) : f x ≠ 0 := by
  have := h.mp.come hx
  simpa [has_] using this
theorem UpAt.next {w wr w1 : World} {b r d n : Nat} {f : Int → Int} {left : Int → Bool} {cnt : Nat} (h : UpAt w wr b r d n f left cnt) (s : Sav (fun q => q = r) wr w1) : Gr w w1 ∧ MapI w1 d n (upF f left) (has_ (upF f left)) :=
  ⟨s.gr h.gr fun q e => by rw [e]; exact h.it, h.up.sav s h.dr⟩
theorem upF_sub {f : Int → Int} {left : Int → Bool} {x : Int} (h : has_ (upF f left) x = true) : has_ f x = true := by
  unfold has_ upF down1 at *
  simp only [decide_eq_true_eq] at *
  intro e
  rw [e] at h
  simp at h
theorem up_tight {w : World} {b r d n m' : Nat} {f : Int → Int} {left left' : Int → Bool} {cnt : Nat} (mp : MapR w b r n f (has_ f) left cnt) (u : MapI w d m' (upF f left') (has_ (upF f left'))) : MapI w d n (upF f left') (has_ (upF f left')) := by
  obtain ⟨k, h1, h2, _⟩ := mp.owns.dom
  exact u.tight fun j hj => Nat.le_trans (dom_sub hj h1 fun x => upF_sub) h2
theorem UpAt.skip {w wr w1 : World} {b r d n : Nat} {f : Int → Int} {left : Int → Bool} {cnt cnt' : Nat} (h : UpAt w wr b r d n f left cnt) {x : Int} (hx : left x = true) (h1 : f x - 1 = 0) (m : MapR w1 b r n f (has_ f) (fI left x false) cnt') (s : Sav (fun q => q = r) wr w1) : UpAt w w1 b r d n f (fI left x false) cnt' := by
  have h2 := h.next s
  have e : upF f left = upF f (fI left x false) := by
    rw [← upF_step (h.come hx), h1, fI_same]
    simp [upF, hx]
  exact ⟨m, by rw [← e]; exact h2.2, h.fr, h.it, h.db, h.dr, h2.1⟩
theorem UpAt.put {w wr w1 w2 : World} {b r d n : Nat} {f : Int → Int} {left : Int → Bool} {cnt cnt' : Nat} (h : UpAt w wr b r d n f left cnt) {x : Int} (hx : left x = true) (h1 : f x - 1 ≠ 0) (m : MapR w1 b r n f (has_ f) (fI left x false) cnt') (s : Sav (fun q => q = r) wr w1)
    (u : MapI w2 d (n + 1) (fI (upF f left) x (f x - 1)) (fI (has_ (upF f left)) x true)) (s2 : Sav (fun q => q = d) w1 w2) : UpAt w w2 b r d n f (fI left x false) cnt' := by
  have m2 := m.sav s2 (fun e => h.db e.symm) (fun e => h.dr e.symm)
  have h2 := h.next s
  rw [← has_fI h1, upF_step (h.come hx)] at u
  exact ⟨m2, up_tight m2 u, h.fr, h.it, h.db, h.dr, s2.gr h2.1 fun q e => by rw [e]; exact h.fr⟩
theorem UpAt.done {w wr : World} {b r d n : Nat} {f : Int → Int} {left : Int → Bool} {cnt : Nat} (h : UpAt w wr b r d n f left cnt) (hd : ∀ k, left k = false) : CMap wr d (n + 1) (down1 f) := by
  have h1 := h.up
  rw [upF_end hd] at h1
  exact MapI.mono h1 (Nat.le_succ n)

/-- m[k] = v, no slot written. -/
theorem wpList_set0_mapI {w : World} {ops : Array Oper} {rest : List Oper} {o : Oper} {a : Act} {Q : Exit → Act → World → Prop} (hg : o.guard = none) (hd : o.dst = none) (m x y : Operand) (hop : o.op = Op.mapUpdate 23 m x y) (b n : Nat) (f : Int → Int) (g : Int → Bool) (hm : a.eval m = .map (some b)) (h : MapI w b n f g) (hn : n < 1000000) (k v : Int) (hx : a.eval x = .int .i64 k) (hy : a.eval y = .int .i64 v) (hk : Bd k) (hv : Bd v)
    (hK : ∀ w', MapI w' b (n + 1) (fI f k v) (fI g k true) → (g k = true → MapI w' b n (fI f k v) (fI g k true)) → Sav (fun q => q = b) w w' → wpList Tryd.prog ops Q rest a w') : wpList Tryd.prog ops Q (o :: rest) a w :=
  wpList_set_mapI hg m x y hop b n f g hm h hn k v hx hy hk hv fun w' h1 h2 h3 => by rw [hd]; exact hK w' h1 h2 h3

set_option maxRecDepth 100000 in
set_option maxHeartbeats 4000000 in
theorem rtop_any {w : World} {kv : Value} {ks : List Int} {c : Int} (hk : Ints w kv ks) (hb : ∀ x ∈ ks, Bd x) (hl : ks.length ≤ 200) (_ : 1 ≤ c) (_ : c ≤ 100) :
    Calls Tryd.prog 4 #[kv, .int .i64 c] w fun e w' => ∃ v L, e = .returned v ∧ PRow 45 w' v L ∧ PairsOf (mgF c ks ks.length) L ∧ L.length ≤ 1000 ∧ Gr w w' := by
  have HK := Lib.hid hk
  obtain ⟨ka, kc, rfl⟩ := ints_shape hk
  have HB := Lib.hid hb
  clear hk hb
  obtain ⟨n, hn⟩ : ∃ n, n = ks.length := ⟨_, rfl⟩
  rw [← hn] at hl ⊢
  have HN := Lib.hid hn
  clear hn
  have HM0 := Lib.hid (CMap.made w)
  have hmm := @run_makeMap Tryd.prog
  go_enter Tryd.func4, Tryd.ntmps4
  go_wp2
  go_loopw [14, 5] (fun s mv wr => ∃ i b : Nat, i ≤ n ∧ s = .int .i64 (i : Int) ∧ mv = .map (some b) ∧ Hid (CMap wr b i (mgF c ks i)) ∧ Hid (w.heap.size ≤ b) ∧ Hid (Gr w wr)) (fun s _ _ => n - (intOf s).toNat)
  case atStart => exact ⟨0, _, Nat.zero_le _, rfl, rfl, HM0, Lib.hid (Nat.le_refl _), Lib.hid ((Gr.refl w).alloc _)⟩
  case round =>
    obtain ⟨i, b, hi, rfl, rfl, HC, HBB, HG⟩ := hrel
    by_cases hlt : i < n
    · have hlk : i < ks.length := by rw [← HN.out]; exact hlt
      obtain ⟨kb, ko, kc', e, hcell⟩ := ints_cells HK.out (by omega)
      cases e
      have c0 := HG.out.cell (hcell.out i hlk)
      have HX := Lib.hid (HB.out _ (getD_mem hlk))
      have HF := Lib.hid (mgF_in c ks i)
      have HS : Hid (mgF c ks (i + 1) = mgStep c (mgF c ks i) (ks.getD i 0)) := Lib.hid rfl
      generalize mgF c ks i = f at *
      generalize ks.getD i 0 = x at *
      have i0 : (0 : Int) ≤ (i : Int) := by omega
      have i1 : (i : Int) < (n : Int) := by omega
      have HW : Hid (wrap64 (f x + 1) = f x + 1) := Lib.hid (by have := HF.out x; unfold wrap64; omega)
      clear hcell hlk
      have HBL := Lib.hid (HC.out.lt)
      by_cases hfx : f x = 0
      · have HFX := Lib.hid hfx
        clear hfx
        obtain ⟨m, hd, hm, hlen⟩ := MapI.dom HC.out
        have HD := Lib.hid (domN_eq hd)
        clear hd
        go_wp2_with (first
          | (at_lookup; refine wpList_look_mapI (by rfl) _ _ (by rfl) b i f (has_ f) (by rfl) HC.out x (by rfl) HX.out ?_; rw [HFX.out])
          | (at_mapUpdate; (refine wpList_set_mapI (by rfl) _ _ _ (by rfl) b i f (has_ f) (by rfl) HC.out (by omega) x 1 (by rfl) (by rfl) HX.out (by unfold Bd; omega) ?_); intro w2 hm2 _ hs2; have HM2 := Lib.hid (CMap.bump (k := x) (by rw [HFX.out]; exact hm2) (HF.out x).1); have HG2 := Lib.hid (hs2.gr HG.out (fun q e => by rw [e]; exact HBB.out)); clear hm2 hs2)
          | (at_range; refine wpList_range_mapI (by rfl) _ (by rfl) (by rfl) (MapI.gr HC.out ((Gr.refl _).alloc _)) ?_; intro w0 cnt0 hmr hgr hsz; have HR0 := Lib.hid hmr; have HG0 := Lib.hid hgr; clear hmr hgr hsz)
          | go_in)
        · have HMC : Hid ((m : Int) < c) := Lib.hid (by omega)
          go_roundw
          case rel => exact ⟨i + 1, b, by omega, by go_num, rfl, by rw [HS.out]; unfold mgStep; rw [if_pos (.inr (by rw [HD.out]; exact HMC.out))]; exact HM2, HBB, HG2⟩
          case measure => simp [intOf]; omega
        · have hmc : ¬ (m : Int) < c := by omega
          have HST : Hid (mgStep c f x = down1 f) := Lib.hid (by
            unfold mgStep
            rw [if_neg]
            rintro (h | h)
            · exact h HFX.out
            · exact hmc (by rw [HD.out] at h; exact h))
          clear hmc
          obtain ⟨d, hd⟩ : ∃ d, d = wr.heap.size := ⟨_, rfl⟩
          have hsz : (wr.alloc (Obj.map #[] 0)).heap.size = d + 1 := by rw [hd]; simp
          rw [hsz] at HR0 ⊢
          rw [← hd]
          have HGA : Hid (Gr w w0) := Lib.hid ((HG.out.alloc _).trans HG0.out)
          have HUP : Hid (UpAt w w0 b (d + 1) d i f (has_ f) cnt0) := Lib.hid ⟨HR0.out, by
              rw [upF_start, has_zero, hd]
              exact ((MapI.made wr).gr HG0.out).mono (Nat.zero_le _), by rw [hd]; exact HG.out.size, by rw [hd]; exact Nat.le_succ_of_le HG.out.size, by have := HBL.out; omega, by omega, HGA.out⟩
          have HDW : Hid (w.heap.size ≤ d) := Lib.hid (by rw [hd]; exact HG.out.size)
          obtain ⟨r, hr⟩ : ∃ r, r = d + 1 := ⟨_, rfl⟩
          rw [← hr] at HUP ⊢
          clear hr hsz hd
          obtain ⟨wo, hwo⟩ : ∃ u, u = wr := ⟨_, rfl⟩
          subst hwo
          go_frame
          go_loopw [9] (fun _ wi => ∃ left cnt, Hid (UpAt w wi b r d i f left cnt)) (fun _ wi => wi.rangeLeft b r)
          case atStart => exact ⟨_, _, HUP⟩
          case round =>
            obtain ⟨left, cnt, HS2⟩ := hrel
            go_wp2_with (first
              | (at_next; refine wpList_next_mapR (by rfl) _ (by rfl) (by rfl) HS2.out.mp ?_ ?_)
              | go_in)
            · intro hl0
              have HL := Lib.hid hl0
              clear hl0
              go_wp2
              go_roundw
              case rel => exact ⟨i + 1, d, by omega, by go_num, rfl, by rw [HS.out, HST.out]; exact Lib.hid (HS2.out.done HL.out), HDW, Lib.hid HS2.out.gr⟩
              case measure => simp [intOf]; omega
            · intro y w1 cnt1 hby hly hmr hlt2 hsv hsz hen
              have H1 := Lib.hid (And.intro hby (And.intro hly (And.intro hmr (And.intro hlt2 hsv))))
              clear hby hly hlt2 hsz
              have HM1 := Lib.hid (HS2.out.next hsv)
              clear hmr hsv
              have HY : Hid (f y ≠ 0) := Lib.hid (HS2.out.come H1.out.2.1)
              have hz0 : 1 ≤ f y ∧ f y ≤ (i : Int) := by have := HF.out y; have := HY.out; omega
              obtain ⟨z, hz⟩ : ∃ z, z = f y := ⟨_, rfl⟩
              rw [← hz] at hz0 hen ⊢
              obtain ⟨hz0, hz2⟩ := hz0
              have HW2 : Hid (wrap64 (z - 1) = z - 1) := Lib.hid (by unfold wrap64; omega)
              have HZB : Hid (Bd (z - 1)) := Lib.hid (by unfold Bd; omega)
              have HZ := Lib.hid hz
              clear hz
              go_wp2_with (first
                | (at_mapUpdate; (try rw [HW2.out]); (refine wpList_set0_mapI (by rfl) (by rfl) _ _ _ (by rfl) d i _ _ (by rfl) HM1.out.2 (by omega) y (z - 1) (by rfl) (by rfl) H1.out.1 HZB.out ?_); intro w2 hm2 _ hs2; have HM2 := Lib.hid hm2; have HS3 := Lib.hid hs2; clear hm2 hs2)
                | go_in)
              · have HZ1 : Hid (z - 1 ≠ 0) := Lib.hid (by omega)
                have HEND : Hid (UpAt w w2 b r d i f (fI left y false) cnt1) := Lib.hid (HS2.out.put H1.out.2.1 (by rw [← HZ.out]; exact HZ1.out) H1.out.2.2.1 H1.out.2.2.2.2 (by rw [← HZ.out]; exact HM2.out) HS3.out)
                go_roundw
                case rel => exact ⟨_, _, HEND⟩
                case measure => rw [HEND.out.mp.left_eq, HS2.out.mp.left_eq]; exact H1.out.2.2.2.1
              · have HZ1 : Hid (z - 1 = 0) := Lib.hid (by omega)
                have HEND : Hid (UpAt w w1 b r d i f (fI left y false) cnt1) := Lib.hid (HS2.out.skip H1.out.2.1 (by rw [← HZ.out]; exact HZ1.out) H1.out.2.2.1 H1.out.2.2.2.2)
                go_roundw
                case rel => exact ⟨_, _, HEND⟩
                case measure => rw [HEND.out.mp.left_eq, HS2.out.mp.left_eq]; exact H1.out.2.2.2.1
      · have hp : 0 < f x := by have := HF.out x; omega
        obtain ⟨y, hy⟩ : ∃ y, y = f x := ⟨_, rfl⟩
        rw [← hy] at hp HW
        have HY := Lib.hid hy
        clear hy hfx
        go_wp2_with (first
          | (at_lookup; refine wpList_look_mapI (by rfl) _ _ (by rfl) b i f (has_ f) (by rfl) HC.out x (by rfl) HX.out ?_; rw [← HY.out])
          | (at_mapUpdate; rw [HW.out]; (refine wpList_set_mapI (by rfl) _ _ _ (by rfl) b i f (has_ f) (by rfl) HC.out (by omega) x (f x + 1) (by rfl) (by rw [← HY.out]; rfl) HX.out (by have := HF.out x; unfold Bd; omega) ?_); intro w2 hm2 _ hs2; have HM2 := Lib.hid (CMap.bump hm2 (HF.out x).1); have HG2 := Lib.hid (hs2.gr HG.out (fun q e => by rw [e]; exact HBB.out)); clear hm2 hs2)
          | go_in)
        go_roundw
        case rel => exact ⟨i + 1, b, by omega, by go_num, rfl, by rw [HS.out]; unfold mgStep; rw [if_pos (.inl (by rw [← HY.out]; omega))]; exact HM2, HBB, HG2⟩
        case measure => simp [intOf]; omega
    · obtain rfl : i = n := by omega
      go_wp2_with (first
        | (go_at_call 9; refine (rsorted_any b i (mgF c ks i) _ HC.out (by omega)).mono ?_; rintro e w2 ⟨v, L, rfl, h1, h2, h3, h4⟩; have H2 := Lib.hid (And.intro h1 (And.intro h2 (And.intro h3 h4))); clear h1 h2 h3 h4)
        | go_in)
      go_ret
      exact ⟨_, L, rfl, H2.out.1, H2.out.2.1, H2.out.2.2.1, HG.out.trans H2.out.2.2.2⟩
end Go.Proofs.YtcfajegdlaeekaaDoor

/-
  The law BookPlays, walked. (Printed by genbokw.py.)
-/
import Derived.Test.YticifnegoacopaaGreatDoorBokWA
import Derived.Test.YticifnegoacopaaGreatDoorApp
namespace Go.Proofs.YticifnegoacopaaGreatDoor
open Go Go.RowKit

section
variable {ev : Operand → Value} {o : Oper} {w : World} {x y z : Operand} {u : Value}
theorem s_eqNil (ho : o.op = .binOp .eql 35 x (.const .nilIface) 35) (h : ev x = .nilIface) (k : ev (.const .nilIface) = .nilIface := by rfl) : (execOp ev o).run Tryz.prog w = .ok (.value (.bool true)) w := by
  have e : (binOp .eql 35 .nilIface .nilIface).run Tryz.prog w = .ok (.bool true) w := by kernel_rfl
  simp [execOp, ho, h, k, e, go_sem]
theorem s_conv {d : ByteArray} (ho : o.op = .convert 25 9 x) (h : ev x = u) (hb : BytesAt w u d) : (execOp ev o).run Tryz.prog w = .ok (.value (.string d)) w := by
  have e := bytes_string hb
  simp [execOp, ho, h, e, Result.andThen]
theorem s_preS {t : ByteArray} {m : Nat} (ho : o.op = .slice 9 x none (some y) none) (h : ev x = .string t) (k : ev y = .int .i64 (m : Int)) (hm : m ≤ t.size) : (execOp ev o).run Tryz.prog w = .ok (.value (.string (t.extract 0 m))) w := by
  have h0 : (0 : Int) ≤ (m : Int) := by omega
  have h1 : (m : Int) ≤ (t.size : Int) := by omega
  simp [execOp, ho, h, k, h0, h1, go_sem]
theorem s_eqS {a : ByteArray} (ho : o.op = .binOp .eql 9 x y 9) (h : ev x = .string a) (k : ev y = .string a) : (execOp ev o).run Tryz.prog w = .ok (.value (.bool true)) w := by simp [execOp, ho, h, k, go_sem]
theorem s_pickF {b : Value} (ho : o.op = .pick x y (.const (.bool false))) (h : ev x = .bool true) (k : ev y = b) : (execOp ev o).run Tryz.prog w = .ok (.value b) w := by simp [execOp, ho, h, k, go_sem]
end
def Fg.nameR (N : List ByteArray) : Fg := ⟨fun u w => NameRow w u N, fun _ _ _ h k => h.gr k⟩
def Fg.strR (N : List ByteArray) : Fg := ⟨fun u w => StrRow w u N, fun _ _ _ h k => h.gr k⟩
/-- The two books, made. -/
theorem books_new (W : World) : BPI W W.heap.size W.heap.size (W.heap.size + 1) [] 0 ((W.alloc (.cells #[.map none, .int .i64 0, .slice none 0 0, .int .i64 0] 28)).alloc (.cells #[.slice none 0 0] 32)) := by
  have hg := ((Gr.refl W).alloc (.cells #[.map none, .int .i64 0, .slice none 0 0, .int .i64 0] 28)).alloc (.cells #[.slice none 0 0] 32)
  have h1 := heap_alloc_new W (.cells #[.map none, .int .i64 0, .slice none 0 0, .int .i64 0] 28)
  have h2 := heap_alloc_new (W.alloc (.cells #[.map none, .int .i64 0, .slice none 0 0, .int .i64 0] 28)) (.cells #[.slice none 0 0] 32)
  have hsz : (W.alloc (.cells #[.map none, .int .i64 0, .slice none 0 0, .int .i64 0] 28)).heap.size = W.heap.size + 1 := by simp
  rw [hsz] at h2
  refine ⟨⟨_, _, ⟨?_, Nat.le_refl _, hg.size, World.ownsRow_nil _ _ _ _, .inl ⟨rfl, rfl⟩, EntOk.nil, Nat.le_refl _⟩⟩, ⟨_, ⟨h2, Nat.le_succ _, hg.size, Row.nil _ _ _ _, (fun g e => by cases e), EntOk.nil⟩⟩, hg, Nat.le_refl _⟩
  exact (((Gr.refl (W.alloc (.cells #[.map none, .int .i64 0, .slice none 0 0, .int .i64 0] 28))).alloc (.cells #[.slice none 0 0] 32)).block (by rw [hsz]; exact Nat.lt_succ_self _)).trans h1

set_option maxRecDepth 100000 in
set_option maxHeartbeats 16000000 in
theorem bookPlays_walk (W : World) (hf : Tab W) (hg : Glob W) {v0 : Value} {k0 : Nat} {T : Nat → ByteArray} (h0 : StrsAt W v0 k0 T) {v1 : Value} {xs1 : List Int} (h1 : Ints W v1 xs1) (hb1 : ∀ x ∈ xs1, Bd x) {v2 : Value} {k2 : Nat} {B2 : Nat → Bool} (h2 : BoolsAt W v2 k2 B2) (keep : Int) (hk1 : -9223372036854775808 ≤ keep) (hk2 : keep ≤ 9223372036854775807) {v4 : Value} {x4 : ByteArray} (h4 : BytesAt W v4 x4) :
    Calls Tryz.prog 3 #[v0, v1, v2, .int .i64 keep, v4] W fun e W' => e = .returned (.bool true) ∧ Gr W W' := by
  have HTB := Lib.hid hf
  have HGB := Lib.hid hg
  have H1 := Lib.hid h1
  have H4 := Lib.hid h4
  obtain ⟨a0, c0, rfl, h0⟩ := h0
  obtain ⟨a1, c1, rfl⟩ := ints_shape h1
  obtain ⟨a2, c2, rfl, h2⟩ := h2
  obtain ⟨a4, c4, rfl, _⟩ := h4
  have H0 := Lib.hid h0
  have H2 := Lib.hid h2
  obtain ⟨m1, hm1⟩ : ∃ m, m = xs1.length := ⟨_, rfl⟩
  have HM1 := Lib.hid hm1
  rw [← hm1] at H1 ⊢
  obtain ⟨m4, hm4⟩ : ∃ m, m = x4.size := ⟨_, rfl⟩
  have HM4 := Lib.hid hm4
  rw [← hm4] at H4 ⊢
  have HBD : Hid (∀ i, Bd (xs1.getD i 0)) := Lib.hid (fun i => by
    rw [List.getD_eq_getElem?_getD]
    cases e : xs1[i]? with
    | none => simp [Bd]
    | some y => exact hb1 y (List.mem_of_getElem? e))
  have z0 : (0 : Int) ≤ (k0 : Int) := by omega
  have z1 : (0 : Int) ≤ (m1 : Int) := by omega
  have z4 : (0 : Int) ≤ (m4 : Int) := by omega
  clear hf hg h1 h0 h2 hm1 hm4 hb1
  by_cases hbig : 60 < k0
  · have y0 : (60 : Int) < (k0 : Int) := by omega
    go_enter Tryz.func3, Tryz.ntmps3
    go_wp2
    go_ret
    exact ⟨rfl, Gr.refl _⟩
  have y0 : ¬ (60 : Int) < (k0 : Int) := by omega
  by_cases hsm : m1 < k0
  · have y1 : (m1 : Int) < (k0 : Int) := by omega
    go_enter Tryz.func3, Tryz.ntmps3
    go_wp2
    go_ret
    exact ⟨rfl, Gr.refl _⟩
  have y1 : ¬ (m1 : Int) < (k0 : Int) := by omega
  by_cases ht4 : 200 < m4
  · have y4 : (200 : Int) < (m4 : Int) := by omega
    go_enter Tryz.func3, Tryz.ntmps3
    go_wp2
    go_ret
    exact ⟨rfl, Gr.refl _⟩
  have y4 : ¬ (200 : Int) < (m4 : Int) := by omega
  have HB0 := Lib.hid (books_new W)
  obtain ⟨n0, hn0⟩ : ∃ n, n = W.heap.size := ⟨_, rfl⟩
  obtain ⟨p, hp⟩ : ∃ n, n = W.heap.size := ⟨_, rfl⟩
  obtain ⟨r, hr⟩ : ∃ n, n = W.heap.size + 1 := ⟨_, rfl⟩
  have HBA : Hid (BPI W n0 p r (entTo T (fun i => xs1.getD i 0) 0) 0 ((W.alloc (.cells #[.map none, .int .i64 0, .slice none 0 0, .int .i64 0] 28)).alloc (.cells #[.slice none 0 0] 32))) := Lib.hid (by rw [hn0, hp, hr]; exact HB0.out)
  clear HB0 hn0
  obtain ⟨F, hF⟩ : ∃ F : Nat → Int, F = fun i => xs1.getD i 0 := ⟨_, rfl⟩
  rw [← hF] at HBA
  have HBF : Hid (∀ i, Bd (F i)) := Lib.hid (fun i => by rw [hF]; exact HBD.out i)
  have HFF := Lib.hid hF
  clear hF HBD
  go_enter Tryz.func3, Tryz.ntmps3
  go_wp2
  have hpr : p + 1 = r := by rw [hr, hp]
  rw [← hp, hpr]
  clear hp hr hpr
  go_loopw [13, 14] (fun s13 s14 wr => ∃ (i s : Nat), i ≤ k0 ∧ s14 = .int .i64 (i : Int) ∧ s13 = .int .i64 (s : Int) ∧ Hid (BPI W n0 p r (entTo T F i) s wr)) (fun _ s _ => k0 - (intOf s).toNat)
  case atStart => exact ⟨0, 0, Nat.zero_le _, rfl, rfl, HBA⟩
  case round =>
    clear HBA
    obtain ⟨i, s, hi, rfl, rfl, HBP⟩ := hrel
    by_cases hlt : i < k0
    · obtain ⟨b0, o0, rfl, hs0⟩ := H0.out (by omega)
      obtain ⟨b1, o1, c1', e, hs1⟩ := ints_cells H1.out (by rw [← HM1.out]; omega)
      obtain ⟨e1, e2, e3⟩ := Value.slice.inj e
      clear e e2
      subst e1 e3
      have HSX := Lib.hid (hs0 i hlt)
      have HSN : Hid (W.cell? ⟨b1, o1 + i, none⟩ = some (.int .i64 (F i))) := Lib.hid (by rw [HFF.out]; exact hs1.out i (by rw [← HM1.out]; omega))
      have k1 := HBP.out.gr.cell HSX.out
      have HLT := Lib.hid hlt
      have HLN : Hid (i < m1) := Lib.hid (by omega)
      have i0 : (0 : Int) ≤ (i : Int) := by omega
      have i1 : (i : Int) < (k0 : Int) := by omega
      clear hs0 hs1
      have HNX : Hid (entTo T F (i + 1) = addL (entTo T F i) (T i) (F i)) := Lib.hid rfl
      have HBN := Lib.hid (HBF.out i)
      have HOK := Lib.hid (entTo_ok T F (i + 1))
      rw [HNX.out] at HOK
      obtain ⟨L2, hL2⟩ : ∃ L2, L2 = entTo T F (i + 1) := ⟨_, rfl⟩
      have HL2 := Lib.hid hL2
      rw [← hL2] at HNX
      clear hL2
      generalize entTo T F i = L at *
      generalize T i = x at *
      generalize F i = n at *
      by_cases hxb : 40 < x.size
      · have x1 : (40 : Int) < (x.size : Int) := by omega
        go_wp2
        go_ret
        exact ⟨rfl, HBP.out.gr⟩
      · have x1 : ¬ (40 : Int) < (x.size : Int) := by omega
        have HX : Hid (x.size ≤ 3000) := Lib.hid (by omega)
        obtain ⟨C, hC⟩ : ∃ C, C = addC L x n := ⟨_, rfl⟩
        obtain ⟨L', hL'⟩ : ∃ L', L' = addL L x n := ⟨_, rfl⟩
        obtain ⟨B, hB⟩ : ∃ B, B = nameOk x := ⟨_, rfl⟩
        have HB := Lib.hid hB.symm
        have HCL := Lib.hid (And.intro hC hL')
        clear hB hC hL'
        go_upto_region 11 with fail
        refine wp_region_w (n := 33) (fun G W' => IAdd W n0 p r s L L' (G 8) (G 18) W') [.slice (some ⟨b0, o0, none⟩) k0 c0, .int .i64 (i : Int), .pointer (some ⟨b0, o0 + i, none⟩), .string x, .slice (some ⟨b1, o1, none⟩) m1 c1, .int .i64 (i : Int), .pointer (some ⟨b1, o1 + i, none⟩), .int .i64 n, errV C, .pointer (some ⟨r, 0, none⟩), .slice (some ⟨b0, o0, none⟩) k0 c0, .int .i64 (i : Int), .pointer (some ⟨b0, o0 + i, none⟩), .string x, .slice (some ⟨b1, o1, none⟩) m1 c1, .int .i64 (i : Int), .pointer (some ⟨b1, o1 + i, none⟩), .int .i64 n, .int .i64 C, .bool true, .bool false, .bool false, .slice (some ⟨b0, o0, none⟩) k0 c0, .int .i64 (i : Int), .pointer (some ⟨b0, o0 + i, none⟩), .string x, .bool B, .slice (some ⟨b0, o0, none⟩) k0 c0, .int .i64 (i : Int), .pointer (some ⟨b0, o0 + i, none⟩), .string x, .bool B, .bool false] [47, 48, 49, 50, 51, 52, 53, 54, 55, 56, 57, 58, 59, 60, 61, 62, 63, 64, 65, 66, 67, 68, 69, 70, 71, 72, 73, 74, 75, 76, 77, 78, 79] ?_ (by kernel_rfl) (by kernel_rfl) (by kernel_rfl) ?_ ?_
        · exact ⟨HBP.out.b.gr ((Gr.refl _).drew), HBP.out.r.gr ((Gr.refl _).drew), HBP.out.gr.trans ((Gr.refl _).drew), HBP.out.hn⟩
        · intro G i' o' ac w1' hi' ho hA hI
          match i', hi' with
          | 0, _ =>
            obtain rfl := Option.some.inj ho
            exact w_val (w_plain rfl) (s_move rfl (show ac.eval (.tmp 0) = .slice (some ⟨b0, o0, none⟩) k0 c0 from hA.other 0 (by decide))) rfl hI
          | 1, _ =>
            obtain rfl := Option.some.inj ho
            exact w_val (w_plain rfl) (s_move rfl (show ac.eval (.tmp 14) = .int .i64 (i : Int) from hA.other 14 (by decide))) rfl hI
          | 2, _ =>
            obtain rfl := Option.some.inj ho
            exact w_val (w_plain rfl) (s_idxS rfl (hA.dep 0 (by kernel_rfl) (by decide)) (hA.dep 1 (by kernel_rfl) (by decide)) HLT.out) rfl hI
          | 3, _ =>
            obtain rfl := Option.some.inj ho
            exact w_val (w_plain rfl) (s_loadT rfl (hA.dep 2 (by kernel_rfl) (by decide)) (hI.gr.cell HSX.out)) rfl hI
          | 4, _ =>
            obtain rfl := Option.some.inj ho
            exact w_val (w_plain rfl) (s_move rfl (show ac.eval (.tmp 1) = .slice (some ⟨b1, o1, none⟩) m1 c1 from hA.other 1 (by decide))) rfl hI
          | 5, _ =>
            obtain rfl := Option.some.inj ho
            exact w_val (w_plain rfl) (s_move rfl (show ac.eval (.tmp 14) = .int .i64 (i : Int) from hA.other 14 (by decide))) rfl hI
          | 6, _ =>
            obtain rfl := Option.some.inj ho
            exact w_val (w_plain rfl) (s_idxI rfl (hA.dep 4 (by kernel_rfl) (by decide)) (hA.dep 5 (by kernel_rfl) (by decide)) HLN.out) rfl hI
          | 7, _ =>
            obtain rfl := Option.some.inj ho
            exact w_val (w_plain rfl) (s_loadN rfl (hA.dep 6 (by kernel_rfl) (by decide)) (hI.gr.cell HSN.out)) rfl hI
          | 8, _ =>
            obtain rfl := Option.some.inj ho
            refine w_call (w_plain rfl) (s_fn3 en_add rfl rfl (show ac.eval (.tmp 11) = .pointer (some ⟨p, 0, none⟩) from hA.other 11 (by decide)) (hA.dep 3 (by kernel_rfl) (by decide)) (hA.dep 7 (by kernel_rfl) (by decide))) ?_
            have hI0 : IAdd W n0 p r s L L' (G 8) (G 18) w1' := hI
            have hself := hA.self
            rw [hself] at hI0
            refine (add_any hI0.b x n HX.out (fun u ku => HTB.out.gr (ku.gr hI0.gr hI0.hn hI0.b.low))).mono ?_
            rintro e w2 ⟨rfl, h2, h3⟩
            exact ⟨by rw [HCL.out.1]; rfl, by rw [HCL.out.2]; exact h2, hI0.r.keep hI0.b h3, h3.gr hI0.gr hI0.hn hI0.b.low, hI0.hn⟩
          | 9, _ =>
            obtain rfl := Option.some.inj ho
            exact w_val (w_plain rfl) (s_move rfl (show ac.eval (.tmp 12) = .pointer (some ⟨r, 0, none⟩) from hA.other 12 (by decide))) rfl hI
          | 10, _ =>
            obtain rfl := Option.some.inj ho
            exact w_val (w_plain rfl) (s_move rfl (show ac.eval (.tmp 0) = .slice (some ⟨b0, o0, none⟩) k0 c0 from hA.other 0 (by decide))) rfl hI
          | 11, _ =>
            obtain rfl := Option.some.inj ho
            exact w_val (w_plain rfl) (s_move rfl (show ac.eval (.tmp 14) = .int .i64 (i : Int) from hA.other 14 (by decide))) rfl hI
          | 12, _ =>
            obtain rfl := Option.some.inj ho
            exact w_val (w_plain rfl) (s_idxS rfl (hA.dep 10 (by kernel_rfl) (by decide)) (hA.dep 11 (by kernel_rfl) (by decide)) HLT.out) rfl hI
          | 13, _ =>
            obtain rfl := Option.some.inj ho
            exact w_val (w_plain rfl) (s_loadT rfl (hA.dep 12 (by kernel_rfl) (by decide)) (hI.gr.cell HSX.out)) rfl hI
          | 14, _ =>
            obtain rfl := Option.some.inj ho
            exact w_val (w_plain rfl) (s_move rfl (show ac.eval (.tmp 1) = .slice (some ⟨b1, o1, none⟩) m1 c1 from hA.other 1 (by decide))) rfl hI
          | 15, _ =>
            obtain rfl := Option.some.inj ho
            exact w_val (w_plain rfl) (s_move rfl (show ac.eval (.tmp 14) = .int .i64 (i : Int) from hA.other 14 (by decide))) rfl hI
          | 16, _ =>
            obtain rfl := Option.some.inj ho
            exact w_val (w_plain rfl) (s_idxI rfl (hA.dep 14 (by kernel_rfl) (by decide)) (hA.dep 15 (by kernel_rfl) (by decide)) HLN.out) rfl hI
          | 17, _ =>
            obtain rfl := Option.some.inj ho
            exact w_val (w_plain rfl) (s_loadN rfl (hA.dep 16 (by kernel_rfl) (by decide)) (hI.gr.cell HSN.out)) rfl hI
          | 18, _ =>
            obtain rfl := Option.some.inj ho
            refine w_call (w_plain rfl) (s_fn3 en_radd rfl rfl (hA.dep 9 (by kernel_rfl) (by decide)) (hA.dep 13 (by kernel_rfl) (by decide)) (hA.dep 17 (by kernel_rfl) (by decide))) ?_
            have hI0 : IAdd W n0 p r s L L' (G 8) (G 18) w1' := hI
            have hself := hA.self
            rw [hself] at hI0
            refine (radd_any hI0.r x n HX.out).mono ?_
            rintro e w2 ⟨rfl, h2, h3⟩
            exact ⟨by rw [HCL.out.1]; rfl, hI0.b.keep hI0.r h3, by rw [HCL.out.2]; exact h2, h3.gr hI0.gr hI0.hn hI0.r.low, hI0.hn⟩
          | 19, _ =>
            obtain rfl := Option.some.inj ho
            refine w_call (w_plain rfl) (s_fn2 en_bare rfl rfl (hA.dep 8 (by kernel_rfl) (by decide)) (hA.dep 18 (by kernel_rfl) (by decide))) ?_
            refine (bare_true w1' (HGB.out.gr hI.gr) (errV_is w1' C)).mono ?_
            rintro e w2 ⟨rfl, h2⟩
            exact ⟨rfl, hI.on h2⟩
          | 20, _ =>
            obtain rfl := Option.some.inj ho
            exact w_val (w_plain rfl) (s_not rfl (hA.dep 19 (by kernel_rfl) (by decide))) rfl hI
          | 21, _ =>
            obtain rfl := Option.some.inj ho
            exact w_val (w_plain rfl) (s_move rfl (hA.dep 20 (by kernel_rfl) (by decide))) rfl hI
          | 22, _ =>
            obtain rfl := Option.some.inj ho
            exact w_val (w_yes rfl (hA.dep 21 (by kernel_rfl) (by decide))) (s_move rfl (show ac.eval (.tmp 0) = .slice (some ⟨b0, o0, none⟩) k0 c0 from hA.other 0 (by decide))) rfl hI
          | 23, _ =>
            obtain rfl := Option.some.inj ho
            exact w_val (w_yes rfl (hA.dep 21 (by kernel_rfl) (by decide))) (s_move rfl (show ac.eval (.tmp 14) = .int .i64 (i : Int) from hA.other 14 (by decide))) rfl hI
          | 24, _ =>
            obtain rfl := Option.some.inj ho
            exact w_val (w_yes rfl (hA.dep 21 (by kernel_rfl) (by decide))) (s_idxS rfl (hA.dep 22 (by kernel_rfl) (by decide)) (hA.dep 23 (by kernel_rfl) (by decide)) HLT.out) rfl hI
          | 25, _ =>
            obtain rfl := Option.some.inj ho
            exact w_val (w_yes rfl (hA.dep 21 (by kernel_rfl) (by decide))) (s_loadT rfl (hA.dep 24 (by kernel_rfl) (by decide)) (hI.gr.cell HSX.out)) rfl hI
          | 26, _ =>
            obtain rfl := Option.some.inj ho
            refine w_call (w_yes rfl (hA.dep 21 (by kernel_rfl) (by decide))) (s_fn1 en_name rfl rfl (hA.dep 25 (by kernel_rfl) (by decide))) ?_
            refine (name_any x HX.out w1').mono ?_
            rintro e w2 ⟨rfl, h2⟩
            exact ⟨by rw [HB.out]; rfl, hI.on h2⟩
          | 27, _ =>
            obtain rfl := Option.some.inj ho
            exact w_val (w_yes rfl (hA.dep 21 (by kernel_rfl) (by decide))) (s_move rfl (show ac.eval (.tmp 0) = .slice (some ⟨b0, o0, none⟩) k0 c0 from hA.other 0 (by decide))) rfl hI
          | 28, _ =>
            obtain rfl := Option.some.inj ho
            exact w_val (w_yes rfl (hA.dep 21 (by kernel_rfl) (by decide))) (s_move rfl (show ac.eval (.tmp 14) = .int .i64 (i : Int) from hA.other 14 (by decide))) rfl hI
          | 29, _ =>
            obtain rfl := Option.some.inj ho
            exact w_val (w_yes rfl (hA.dep 21 (by kernel_rfl) (by decide))) (s_idxS rfl (hA.dep 27 (by kernel_rfl) (by decide)) (hA.dep 28 (by kernel_rfl) (by decide)) HLT.out) rfl hI
          | 30, _ =>
            obtain rfl := Option.some.inj ho
            exact w_val (w_yes rfl (hA.dep 21 (by kernel_rfl) (by decide))) (s_loadT rfl (hA.dep 29 (by kernel_rfl) (by decide)) (hI.gr.cell HSX.out)) rfl hI
          | 31, _ =>
            obtain rfl := Option.some.inj ho
            refine w_call (w_yes rfl (hA.dep 21 (by kernel_rfl) (by decide))) (s_fn1 en_rname rfl rfl (hA.dep 30 (by kernel_rfl) (by decide))) ?_
            refine (rname_any x HX.out w1').mono ?_
            rintro e w2 ⟨rfl, h2⟩
            exact ⟨by rw [HB.out]; rfl, hI.on h2⟩
          | 32, _ =>
            obtain rfl := Option.some.inj ho
            exact w_val (w_yes rfl (hA.dep 21 (by kernel_rfl) (by decide))) (s_neqB rfl (hA.dep 26 (by kernel_rfl) (by decide)) (hA.dep 31 (by kernel_rfl) (by decide))) rfl hI
          | k' + 33, hk' => exact absurd (show k' + 33 < 33 from hk') (by omega)
        · intro G w5 hG hI
          have hI0 : IAdd W n0 p r s L L' (G 8) (G 18) w5 := hI
          have e8 := hG 8 (by omega)
          have e18 := hG 18 (by omega)
          rw [e8, e18] at hI0
          have HB5 : Hid (BPI W n0 p r L' s w5) := Lib.hid ⟨hI0.b, hI0.r, hI0.gr, hI0.hn⟩
          clear hI hI0 hG e8 e18
          simp only [putN, List.drop_succ_cons, List.drop_zero, List.getElem?_cons_succ, List.getElem?_cons_zero, List.getD_cons_succ, List.getD_cons_zero]
          rw [← HCL.out.2] at HOK HNX
          have HL5 : Hid (L'.length ≤ 500) := Lib.hid HOK.out.1
          have HNL : Hid ((namesOf L').length ≤ 100000) := Lib.hid (Nat.le_trans (namesOf_len _) (by have := HOK.out.1; omega))
          have y2 : (0 : Int) ≤ (k2 : Int) := by omega
          clear HCL k1 HBP x1
          by_cases hk : i < k2
          · obtain ⟨b2, o2, rfl, hs2⟩ := H2.out (by omega)
            have j2 : (i : Int) < (k2 : Int) := by omega
            have kb := HB5.out.gr.cell (hs2 i hk)
            clear hs2
            cases hq : B2 i with
            | true =>
              rw [hq] at kb
              clear hq
              go_upto_region 16 with (first
                | (go_at_call 10; refine (sync_any HB5.out.b).mono ?_; rintro e w6 ⟨rfl, h6, hk6⟩; have HB6 : Hid (BPI W n0 p r L' (journal L').size w6) := Lib.hid ⟨h6, HB5.out.r.keep HB5.out.b hk6, hk6.gr HB5.out.gr HB5.out.hn HB5.out.b.low, HB5.out.hn⟩; clear h6 hk6)
                | (go_at_call 11; refine (rjournal_any HB6.out.r (HTB.out.gr HB6.out.gr)).mono ?_; rintro e w9 ⟨rfl, h9⟩; have HB9 := Lib.hid (HB6.out.on h9); clear h9))
              obtain ⟨w7, hw7⟩ : ∃ u, u = w9 := ⟨_, rfl⟩
              rw [← hw7]
              have HB7 : Hid (BPI W n0 p r L' (journal L').size w7) := Lib.hid (by rw [hw7]; exact HB9.out)
              clear hw7
              obtain ⟨lv, hlv⟩ := HB7.out.r
              obtain ⟨la, lc, rfl⟩ := hlv.shape
              have HRC := Lib.hid hlv.c0
              clear hlv
              refine wp_region_gg (n := 27) [Fg.eq (.slice (some ⟨b0, o0, none⟩) k0 c0), Fg.eq (.int .i64 (i : Int)), Fg.eq (.pointer (some ⟨b0, o0 + i, none⟩)), Fg.eq (.string x), Fg.eq (.int .i64 (getN L' x)), Fg.eq (.pointer (some ⟨r, 0, none⟩)), Fg.eq (.slice (some ⟨b0, o0, none⟩) k0 c0), Fg.eq (.int .i64 (i : Int)), Fg.eq (.pointer (some ⟨b0, o0 + i, none⟩)), Fg.eq (.string x), Fg.eq (.int .i64 (getN L' x)), Fg.eq (.bool false), Fg.eq (.bool false), Fg.eq (.int .i64 (L'.length : Int)), Fg.eq (.pointer (some ⟨r, 0, none⟩)), Fg.eq (.pointer (some ⟨r, 0, none⟩)), Fg.eq (.pointer (some ⟨r, 0, none⟩)), Fg.eq (.slice la L'.length lc), Fg.eq (.int .i64 (L'.length : Int)), Fg.eq (.bool false), Fg.eq (.bool false), Fg.eq (.bool false), Fg.nameR (namesOf L'), Fg.eq (.pointer (some ⟨r, 0, none⟩)), Fg.strR (namesOf L'), Fg.eq (.bool true), Fg.eq (.bool false)] [95, 96, 97, 98, 99, 100, 101, 102, 103, 104, 105, 106, 107, 108, 109, 110, 111, 112, 113, 114, 115, 116, 117, 118, 119, 120, 121] (by kernel_rfl) (by kernel_rfl) (by kernel_rfl) ?_ ?_
              · intro Ls i' o' ac w1' hi' ho hA
                have hgr : Gr w7 w1' := ((Gr.refl w7).drew).trans hA.gr
                match i', hi' with
                | 0, _ =>
                  obtain rfl := Option.some.inj ho
                  exact gg_plain rfl (gstep_val (s_move rfl (show ac.eval (.tmp 0) = .slice (some ⟨b0, o0, none⟩) k0 c0 from hA.other 0 (by decide))) rfl)
                | 1, _ =>
                  obtain rfl := Option.some.inj ho
                  exact gg_plain rfl (gstep_val (s_move rfl (show ac.eval (.tmp 14) = .int .i64 (i : Int) from hA.other 14 (by decide))) rfl)
                | 2, _ =>
                  obtain rfl := Option.some.inj ho
                  exact gg_plain rfl (gstep_val (s_idxS rfl (hA.fact 0 (hA.dep 0 (by kernel_rfl) (by decide))) (hA.fact 1 (hA.dep 1 (by kernel_rfl) (by decide))) HLT.out) rfl)
                | 3, _ =>
                  obtain rfl := Option.some.inj ho
                  exact gg_plain rfl (gstep_val (s_loadT rfl (hA.fact 2 (hA.dep 2 (by kernel_rfl) (by decide))) ((HB7.out.gr.trans hgr).cell HSX.out)) rfl)
                | 4, _ =>
                  obtain rfl := Option.some.inj ho
                  exact gg_plain rfl (gstep_call (s_fn2 en_get rfl rfl (show ac.eval (.tmp 11) = .pointer (some ⟨p, 0, none⟩) from hA.other 11 (by decide)) (hA.fact 3 (hA.dep 3 (by kernel_rfl) (by decide)))) ((get_any (HB7.out.b.gr hgr) x HX.out).mono (fun e w2 ⟨h1, h2⟩ => ⟨_, h1, by subst h2; exact Gr.refl _, rfl⟩)))
                | 5, _ =>
                  obtain rfl := Option.some.inj ho
                  exact gg_plain rfl (gstep_val (s_move rfl (show ac.eval (.tmp 12) = .pointer (some ⟨r, 0, none⟩) from hA.other 12 (by decide))) rfl)
                | 6, _ =>
                  obtain rfl := Option.some.inj ho
                  exact gg_plain rfl (gstep_val (s_move rfl (show ac.eval (.tmp 0) = .slice (some ⟨b0, o0, none⟩) k0 c0 from hA.other 0 (by decide))) rfl)
                | 7, _ =>
                  obtain rfl := Option.some.inj ho
                  exact gg_plain rfl (gstep_val (s_move rfl (show ac.eval (.tmp 14) = .int .i64 (i : Int) from hA.other 14 (by decide))) rfl)
                | 8, _ =>
                  obtain rfl := Option.some.inj ho
                  exact gg_plain rfl (gstep_val (s_idxS rfl (hA.fact 6 (hA.dep 6 (by kernel_rfl) (by decide))) (hA.fact 7 (hA.dep 7 (by kernel_rfl) (by decide))) HLT.out) rfl)
                | 9, _ =>
                  obtain rfl := Option.some.inj ho
                  exact gg_plain rfl (gstep_val (s_loadT rfl (hA.fact 8 (hA.dep 8 (by kernel_rfl) (by decide))) ((HB7.out.gr.trans hgr).cell HSX.out)) rfl)
                | 10, _ =>
                  obtain rfl := Option.some.inj ho
                  exact gg_plain rfl (gstep_call (s_fn2 en_rget rfl rfl (hA.fact 5 (hA.dep 5 (by kernel_rfl) (by decide))) (hA.fact 9 (hA.dep 9 (by kernel_rfl) (by decide)))) ((rget_any (HB7.out.r.gr hgr) x).mono (fun e w2 ⟨h1, h2⟩ => ⟨_, h1, h2, rfl⟩)))
                | 11, _ =>
                  obtain rfl := Option.some.inj ho
                  exact gg_plain rfl (gstep_val (s_neqI rfl (hA.fact 4 (hA.dep 4 (by kernel_rfl) (by decide))) (hA.fact 10 (hA.dep 10 (by kernel_rfl) (by decide)))) rfl)
                | 12, _ =>
                  obtain rfl := Option.some.inj ho
                  exact gg_plain rfl (gstep_val (s_move rfl (hA.fact 11 (hA.dep 11 (by kernel_rfl) (by decide)))) rfl)
                | 13, _ =>
                  obtain rfl := Option.some.inj ho
                  exact gg_yes rfl (hA.fact 12 (hA.dep 12 (by kernel_rfl) (by decide))) (gstep_call (s_fn1 en_lines rfl rfl (show ac.eval (.tmp 11) = .pointer (some ⟨p, 0, none⟩) from hA.other 11 (by decide))) ((lines_any (HB7.out.b.gr hgr)).mono (fun e w2 ⟨h1, h2⟩ => ⟨_, h1, by subst h2; exact Gr.refl _, rfl⟩)))
                | 14, _ =>
                  obtain rfl := Option.some.inj ho
                  exact gg_yes rfl (hA.fact 12 (hA.dep 12 (by kernel_rfl) (by decide))) (gstep_val (s_move rfl (show ac.eval (.tmp 12) = .pointer (some ⟨r, 0, none⟩) from hA.other 12 (by decide))) rfl)
                | 15, _ =>
                  obtain rfl := Option.some.inj ho
                  exact gg_yes rfl (hA.fact 12 (hA.dep 12 (by kernel_rfl) (by decide))) (gstep_val (s_nil rfl (hA.fact 14 (hA.dep 14 (by kernel_rfl) (by decide)))) rfl)
                | 16, _ =>
                  obtain rfl := Option.some.inj ho
                  exact gg_yes rfl (hA.fact 12 (hA.dep 12 (by kernel_rfl) (by decide))) (gstep_val (s_frb rfl (hA.fact 15 (hA.dep 15 (by kernel_rfl) (by decide)))) rfl)
                | 17, _ =>
                  obtain rfl := Option.some.inj ho
                  exact gg_yes rfl (hA.fact 12 (hA.dep 12 (by kernel_rfl) (by decide))) (gstep_val (s_loadE ⟨_, _, _, rfl⟩ rfl (hA.fact 16 (hA.dep 16 (by kernel_rfl) (by decide))) (hgr.cell HRC.out)) rfl)
                | 18, _ =>
                  obtain rfl := Option.some.inj ho
                  exact gg_yes rfl (hA.fact 12 (hA.dep 12 (by kernel_rfl) (by decide))) (gstep_val (s_lenE rfl (hA.fact 17 (hA.dep 17 (by kernel_rfl) (by decide))) HL5.out) rfl)
                | 19, _ =>
                  obtain rfl := Option.some.inj ho
                  exact gg_yes rfl (hA.fact 12 (hA.dep 12 (by kernel_rfl) (by decide))) (gstep_val (s_neqI rfl (hA.fact 13 (hA.dep 13 (by kernel_rfl) (by decide))) (hA.fact 18 (hA.dep 18 (by kernel_rfl) (by decide)))) rfl)
                | 20, _ =>
                  obtain rfl := Option.some.inj ho
                  exact gg_plain rfl (gstep_val (s_pickT rfl (hA.fact 12 (hA.dep 12 (by kernel_rfl) (by decide))) (hA.fact 19 (hA.dep 19 (by kernel_rfl) (by decide)))) rfl)
                | 21, _ =>
                  obtain rfl := Option.some.inj ho
                  exact gg_plain rfl (gstep_val (s_move rfl (hA.fact 20 (hA.dep 20 (by kernel_rfl) (by decide)))) rfl)
                | 22, _ =>
                  obtain rfl := Option.some.inj ho
                  exact gg_yes rfl (hA.fact 21 (hA.dep 21 (by kernel_rfl) (by decide))) (gstep_call (s_fn1 en_names rfl rfl (show ac.eval (.tmp 11) = .pointer (some ⟨p, 0, none⟩) from hA.other 11 (by decide))) ((names_any (HB7.out.b.gr hgr)).mono (fun e w2 ⟨v, h1, h2, h3⟩ => ⟨v, h1, h3, h2⟩)))
                | 23, _ =>
                  obtain rfl := Option.some.inj ho
                  exact gg_yes rfl (hA.fact 21 (hA.dep 21 (by kernel_rfl) (by decide))) (gstep_val (s_move rfl (show ac.eval (.tmp 12) = .pointer (some ⟨r, 0, none⟩) from hA.other 12 (by decide))) rfl)
                | 24, _ =>
                  obtain rfl := Option.some.inj ho
                  exact gg_yes rfl (hA.fact 21 (hA.dep 21 (by kernel_rfl) (by decide))) (gstep_call (s_fn1 en_rnames rfl rfl (hA.fact 23 (hA.dep 23 (by kernel_rfl) (by decide)))) ((rnames_any (HB7.out.r.gr hgr)).mono (fun e w2 ⟨v, h1, h2, h3⟩ => ⟨v, h1, h3, h2⟩)))
                | 25, _ =>
                  obtain rfl := Option.some.inj ho
                  have hn1 : NameRow w1' (valOf _ ac 22) (namesOf L') := (hA.fact 22 (hA.dep 22 (by kernel_rfl) (by decide)))
                  have hn2 : StrRow w1' (valOf _ ac 24) (namesOf L') := (hA.fact 24 (hA.dep 24 (by kernel_rfl) (by decide)))
                  exact gg_yes rfl (hA.fact 21 (hA.dep 21 (by kernel_rfl) (by decide))) (gstep_call (s_fn2 en_same rfl rfl rfl rfl) ((same_any hn1.strs hn2.strs HNL.out).mono (fun e w2 ⟨h1, h2⟩ => ⟨_, h1, h2, rfl⟩)))
                | 26, _ =>
                  obtain rfl := Option.some.inj ho
                  exact gg_yes rfl (hA.fact 21 (hA.dep 21 (by kernel_rfl) (by decide))) (gstep_val (s_not rfl (hA.fact 25 (hA.dep 25 (by kernel_rfl) (by decide)))) rfl)
                | k' + 27, hk' => exact absurd (show k' + 27 < 27 from hk') (by omega)
              · intro vs5 w8 hg8 hv
                have v20 : vs5 20 = .bool false := hv 20 (by omega)
                have v21 : vs5 21 = .bool false := hv 21 (by omega)
                have v26 : vs5 26 = .bool false := hv 26 (by omega)
                have HB8 := Lib.hid (HB7.out.on (((Gr.refl w7).drew).trans hg8))
                clear hv hg8
                simp only [putN, List.drop_succ_cons, List.drop_zero, List.getElem?_cons_succ, List.getElem?_cons_zero, v20, v21, v26]
                clear v20 v21 v26
                generalize vs5 0 = z0 at *
                generalize vs5 1 = z1 at *
                generalize vs5 2 = z2 at *
                generalize vs5 3 = z3 at *
                generalize vs5 4 = z4 at *
                generalize vs5 5 = z5 at *
                generalize vs5 6 = z6 at *
                generalize vs5 7 = z7 at *
                generalize vs5 8 = z8 at *
                generalize vs5 9 = z9 at *
                generalize vs5 10 = z10 at *
                generalize vs5 11 = z11 at *
                generalize vs5 12 = z12 at *
                generalize vs5 13 = z13 at *
                generalize vs5 14 = z14 at *
                generalize vs5 15 = z15 at *
                generalize vs5 16 = z16 at *
                generalize vs5 17 = z17 at *
                generalize vs5 18 = z18 at *
                generalize vs5 19 = z19 at *
                generalize vs5 22 = z22 at *
                generalize vs5 23 = z23 at *
                generalize vs5 24 = z24 at *
                generalize vs5 25 = z25 at *
                go_wp2
                go_roundw
                case rel => exact ⟨i + 1, (journal L').size, by omega, by go_num, rfl, by rw [← HL2.out, HNX.out]; exact HB8⟩
                case measure => simp [intOf]; omega
            | false =>
              rw [hq] at kb
              clear hq
              go_upto_region 16 with fail
              obtain ⟨w7, hw7⟩ : ∃ u, u = w5 := ⟨_, rfl⟩
              rw [← hw7]
              have HB7 : Hid (BPI W n0 p r L' s w7) := Lib.hid (by rw [hw7]; exact HB5.out)
              clear hw7
              obtain ⟨lv, hlv⟩ := HB7.out.r
              obtain ⟨la, lc, rfl⟩ := hlv.shape
              have HRC := Lib.hid hlv.c0
              clear hlv
              refine wp_region_gg (n := 27) [Fg.eq (.slice (some ⟨b0, o0, none⟩) k0 c0), Fg.eq (.int .i64 (i : Int)), Fg.eq (.pointer (some ⟨b0, o0 + i, none⟩)), Fg.eq (.string x), Fg.eq (.int .i64 (getN L' x)), Fg.eq (.pointer (some ⟨r, 0, none⟩)), Fg.eq (.slice (some ⟨b0, o0, none⟩) k0 c0), Fg.eq (.int .i64 (i : Int)), Fg.eq (.pointer (some ⟨b0, o0 + i, none⟩)), Fg.eq (.string x), Fg.eq (.int .i64 (getN L' x)), Fg.eq (.bool false), Fg.eq (.bool false), Fg.eq (.int .i64 (L'.length : Int)), Fg.eq (.pointer (some ⟨r, 0, none⟩)), Fg.eq (.pointer (some ⟨r, 0, none⟩)), Fg.eq (.pointer (some ⟨r, 0, none⟩)), Fg.eq (.slice la L'.length lc), Fg.eq (.int .i64 (L'.length : Int)), Fg.eq (.bool false), Fg.eq (.bool false), Fg.eq (.bool false), Fg.nameR (namesOf L'), Fg.eq (.pointer (some ⟨r, 0, none⟩)), Fg.strR (namesOf L'), Fg.eq (.bool true), Fg.eq (.bool false)] [95, 96, 97, 98, 99, 100, 101, 102, 103, 104, 105, 106, 107, 108, 109, 110, 111, 112, 113, 114, 115, 116, 117, 118, 119, 120, 121] (by kernel_rfl) (by kernel_rfl) (by kernel_rfl) ?_ ?_
              · intro Ls i' o' ac w1' hi' ho hA
                have hgr : Gr w7 w1' := ((Gr.refl w7).drew).trans hA.gr
                match i', hi' with
                | 0, _ =>
                  obtain rfl := Option.some.inj ho
                  exact gg_plain rfl (gstep_val (s_move rfl (show ac.eval (.tmp 0) = .slice (some ⟨b0, o0, none⟩) k0 c0 from hA.other 0 (by decide))) rfl)
                | 1, _ =>
                  obtain rfl := Option.some.inj ho
                  exact gg_plain rfl (gstep_val (s_move rfl (show ac.eval (.tmp 14) = .int .i64 (i : Int) from hA.other 14 (by decide))) rfl)
                | 2, _ =>
                  obtain rfl := Option.some.inj ho
                  exact gg_plain rfl (gstep_val (s_idxS rfl (hA.fact 0 (hA.dep 0 (by kernel_rfl) (by decide))) (hA.fact 1 (hA.dep 1 (by kernel_rfl) (by decide))) HLT.out) rfl)
                | 3, _ =>
                  obtain rfl := Option.some.inj ho
                  exact gg_plain rfl (gstep_val (s_loadT rfl (hA.fact 2 (hA.dep 2 (by kernel_rfl) (by decide))) ((HB7.out.gr.trans hgr).cell HSX.out)) rfl)
                | 4, _ =>
                  obtain rfl := Option.some.inj ho
                  exact gg_plain rfl (gstep_call (s_fn2 en_get rfl rfl (show ac.eval (.tmp 11) = .pointer (some ⟨p, 0, none⟩) from hA.other 11 (by decide)) (hA.fact 3 (hA.dep 3 (by kernel_rfl) (by decide)))) ((get_any (HB7.out.b.gr hgr) x HX.out).mono (fun e w2 ⟨h1, h2⟩ => ⟨_, h1, by subst h2; exact Gr.refl _, rfl⟩)))
                | 5, _ =>
                  obtain rfl := Option.some.inj ho
                  exact gg_plain rfl (gstep_val (s_move rfl (show ac.eval (.tmp 12) = .pointer (some ⟨r, 0, none⟩) from hA.other 12 (by decide))) rfl)
                | 6, _ =>
                  obtain rfl := Option.some.inj ho
                  exact gg_plain rfl (gstep_val (s_move rfl (show ac.eval (.tmp 0) = .slice (some ⟨b0, o0, none⟩) k0 c0 from hA.other 0 (by decide))) rfl)
                | 7, _ =>
                  obtain rfl := Option.some.inj ho
                  exact gg_plain rfl (gstep_val (s_move rfl (show ac.eval (.tmp 14) = .int .i64 (i : Int) from hA.other 14 (by decide))) rfl)
                | 8, _ =>
                  obtain rfl := Option.some.inj ho
                  exact gg_plain rfl (gstep_val (s_idxS rfl (hA.fact 6 (hA.dep 6 (by kernel_rfl) (by decide))) (hA.fact 7 (hA.dep 7 (by kernel_rfl) (by decide))) HLT.out) rfl)
                | 9, _ =>
                  obtain rfl := Option.some.inj ho
                  exact gg_plain rfl (gstep_val (s_loadT rfl (hA.fact 8 (hA.dep 8 (by kernel_rfl) (by decide))) ((HB7.out.gr.trans hgr).cell HSX.out)) rfl)
                | 10, _ =>
                  obtain rfl := Option.some.inj ho
                  exact gg_plain rfl (gstep_call (s_fn2 en_rget rfl rfl (hA.fact 5 (hA.dep 5 (by kernel_rfl) (by decide))) (hA.fact 9 (hA.dep 9 (by kernel_rfl) (by decide)))) ((rget_any (HB7.out.r.gr hgr) x).mono (fun e w2 ⟨h1, h2⟩ => ⟨_, h1, h2, rfl⟩)))
                | 11, _ =>
                  obtain rfl := Option.some.inj ho
                  exact gg_plain rfl (gstep_val (s_neqI rfl (hA.fact 4 (hA.dep 4 (by kernel_rfl) (by decide))) (hA.fact 10 (hA.dep 10 (by kernel_rfl) (by decide)))) rfl)
                | 12, _ =>
                  obtain rfl := Option.some.inj ho
                  exact gg_plain rfl (gstep_val (s_move rfl (hA.fact 11 (hA.dep 11 (by kernel_rfl) (by decide)))) rfl)
                | 13, _ =>
                  obtain rfl := Option.some.inj ho
                  exact gg_yes rfl (hA.fact 12 (hA.dep 12 (by kernel_rfl) (by decide))) (gstep_call (s_fn1 en_lines rfl rfl (show ac.eval (.tmp 11) = .pointer (some ⟨p, 0, none⟩) from hA.other 11 (by decide))) ((lines_any (HB7.out.b.gr hgr)).mono (fun e w2 ⟨h1, h2⟩ => ⟨_, h1, by subst h2; exact Gr.refl _, rfl⟩)))
                | 14, _ =>
                  obtain rfl := Option.some.inj ho
                  exact gg_yes rfl (hA.fact 12 (hA.dep 12 (by kernel_rfl) (by decide))) (gstep_val (s_move rfl (show ac.eval (.tmp 12) = .pointer (some ⟨r, 0, none⟩) from hA.other 12 (by decide))) rfl)
                | 15, _ =>
                  obtain rfl := Option.some.inj ho
                  exact gg_yes rfl (hA.fact 12 (hA.dep 12 (by kernel_rfl) (by decide))) (gstep_val (s_nil rfl (hA.fact 14 (hA.dep 14 (by kernel_rfl) (by decide)))) rfl)
                | 16, _ =>
                  obtain rfl := Option.some.inj ho
                  exact gg_yes rfl (hA.fact 12 (hA.dep 12 (by kernel_rfl) (by decide))) (gstep_val (s_frb rfl (hA.fact 15 (hA.dep 15 (by kernel_rfl) (by decide)))) rfl)
                | 17, _ =>
                  obtain rfl := Option.some.inj ho
                  exact gg_yes rfl (hA.fact 12 (hA.dep 12 (by kernel_rfl) (by decide))) (gstep_val (s_loadE ⟨_, _, _, rfl⟩ rfl (hA.fact 16 (hA.dep 16 (by kernel_rfl) (by decide))) (hgr.cell HRC.out)) rfl)
                | 18, _ =>
                  obtain rfl := Option.some.inj ho
                  exact gg_yes rfl (hA.fact 12 (hA.dep 12 (by kernel_rfl) (by decide))) (gstep_val (s_lenE rfl (hA.fact 17 (hA.dep 17 (by kernel_rfl) (by decide))) HL5.out) rfl)
                | 19, _ =>
                  obtain rfl := Option.some.inj ho
                  exact gg_yes rfl (hA.fact 12 (hA.dep 12 (by kernel_rfl) (by decide))) (gstep_val (s_neqI rfl (hA.fact 13 (hA.dep 13 (by kernel_rfl) (by decide))) (hA.fact 18 (hA.dep 18 (by kernel_rfl) (by decide)))) rfl)
                | 20, _ =>
                  obtain rfl := Option.some.inj ho
                  exact gg_plain rfl (gstep_val (s_pickT rfl (hA.fact 12 (hA.dep 12 (by kernel_rfl) (by decide))) (hA.fact 19 (hA.dep 19 (by kernel_rfl) (by decide)))) rfl)
                | 21, _ =>
                  obtain rfl := Option.some.inj ho
                  exact gg_plain rfl (gstep_val (s_move rfl (hA.fact 20 (hA.dep 20 (by kernel_rfl) (by decide)))) rfl)
                | 22, _ =>
                  obtain rfl := Option.some.inj ho
                  exact gg_yes rfl (hA.fact 21 (hA.dep 21 (by kernel_rfl) (by decide))) (gstep_call (s_fn1 en_names rfl rfl (show ac.eval (.tmp 11) = .pointer (some ⟨p, 0, none⟩) from hA.other 11 (by decide))) ((names_any (HB7.out.b.gr hgr)).mono (fun e w2 ⟨v, h1, h2, h3⟩ => ⟨v, h1, h3, h2⟩)))
                | 23, _ =>
                  obtain rfl := Option.some.inj ho
                  exact gg_yes rfl (hA.fact 21 (hA.dep 21 (by kernel_rfl) (by decide))) (gstep_val (s_move rfl (show ac.eval (.tmp 12) = .pointer (some ⟨r, 0, none⟩) from hA.other 12 (by decide))) rfl)
                | 24, _ =>
                  obtain rfl := Option.some.inj ho
                  exact gg_yes rfl (hA.fact 21 (hA.dep 21 (by kernel_rfl) (by decide))) (gstep_call (s_fn1 en_rnames rfl rfl (hA.fact 23 (hA.dep 23 (by kernel_rfl) (by decide)))) ((rnames_any (HB7.out.r.gr hgr)).mono (fun e w2 ⟨v, h1, h2, h3⟩ => ⟨v, h1, h3, h2⟩)))
                | 25, _ =>
                  obtain rfl := Option.some.inj ho
                  have hn1 : NameRow w1' (valOf _ ac 22) (namesOf L') := (hA.fact 22 (hA.dep 22 (by kernel_rfl) (by decide)))
                  have hn2 : StrRow w1' (valOf _ ac 24) (namesOf L') := (hA.fact 24 (hA.dep 24 (by kernel_rfl) (by decide)))
                  exact gg_yes rfl (hA.fact 21 (hA.dep 21 (by kernel_rfl) (by decide))) (gstep_call (s_fn2 en_same rfl rfl rfl rfl) ((same_any hn1.strs hn2.strs HNL.out).mono (fun e w2 ⟨h1, h2⟩ => ⟨_, h1, h2, rfl⟩)))
                | 26, _ =>
                  obtain rfl := Option.some.inj ho
                  exact gg_yes rfl (hA.fact 21 (hA.dep 21 (by kernel_rfl) (by decide))) (gstep_val (s_not rfl (hA.fact 25 (hA.dep 25 (by kernel_rfl) (by decide)))) rfl)
                | k' + 27, hk' => exact absurd (show k' + 27 < 27 from hk') (by omega)
              · intro vs5 w8 hg8 hv
                have v20 : vs5 20 = .bool false := hv 20 (by omega)
                have v21 : vs5 21 = .bool false := hv 21 (by omega)
                have v26 : vs5 26 = .bool false := hv 26 (by omega)
                have HB8 := Lib.hid (HB7.out.on (((Gr.refl w7).drew).trans hg8))
                clear hv hg8
                simp only [putN, List.drop_succ_cons, List.drop_zero, List.getElem?_cons_succ, List.getElem?_cons_zero, v20, v21, v26]
                clear v20 v21 v26
                generalize vs5 0 = z0 at *
                generalize vs5 1 = z1 at *
                generalize vs5 2 = z2 at *
                generalize vs5 3 = z3 at *
                generalize vs5 4 = z4 at *
                generalize vs5 5 = z5 at *
                generalize vs5 6 = z6 at *
                generalize vs5 7 = z7 at *
                generalize vs5 8 = z8 at *
                generalize vs5 9 = z9 at *
                generalize vs5 10 = z10 at *
                generalize vs5 11 = z11 at *
                generalize vs5 12 = z12 at *
                generalize vs5 13 = z13 at *
                generalize vs5 14 = z14 at *
                generalize vs5 15 = z15 at *
                generalize vs5 16 = z16 at *
                generalize vs5 17 = z17 at *
                generalize vs5 18 = z18 at *
                generalize vs5 19 = z19 at *
                generalize vs5 22 = z22 at *
                generalize vs5 23 = z23 at *
                generalize vs5 24 = z24 at *
                generalize vs5 25 = z25 at *
                go_wp2
                go_roundw
                case rel => exact ⟨i + 1, s, by omega, by go_num, rfl, by rw [← HL2.out, HNX.out]; exact HB8⟩
                case measure => simp [intOf]; omega
          · have j2 : ¬ (i : Int) < (k2 : Int) := by omega
            go_upto_region 16 with fail
            obtain ⟨w7, hw7⟩ : ∃ u, u = w5 := ⟨_, rfl⟩
            rw [← hw7]
            have HB7 : Hid (BPI W n0 p r L' s w7) := Lib.hid (by rw [hw7]; exact HB5.out)
            clear hw7
            obtain ⟨lv, hlv⟩ := HB7.out.r
            obtain ⟨la, lc, rfl⟩ := hlv.shape
            have HRC := Lib.hid hlv.c0
            clear hlv
            refine wp_region_gg (n := 27) [Fg.eq (.slice (some ⟨b0, o0, none⟩) k0 c0), Fg.eq (.int .i64 (i : Int)), Fg.eq (.pointer (some ⟨b0, o0 + i, none⟩)), Fg.eq (.string x), Fg.eq (.int .i64 (getN L' x)), Fg.eq (.pointer (some ⟨r, 0, none⟩)), Fg.eq (.slice (some ⟨b0, o0, none⟩) k0 c0), Fg.eq (.int .i64 (i : Int)), Fg.eq (.pointer (some ⟨b0, o0 + i, none⟩)), Fg.eq (.string x), Fg.eq (.int .i64 (getN L' x)), Fg.eq (.bool false), Fg.eq (.bool false), Fg.eq (.int .i64 (L'.length : Int)), Fg.eq (.pointer (some ⟨r, 0, none⟩)), Fg.eq (.pointer (some ⟨r, 0, none⟩)), Fg.eq (.pointer (some ⟨r, 0, none⟩)), Fg.eq (.slice la L'.length lc), Fg.eq (.int .i64 (L'.length : Int)), Fg.eq (.bool false), Fg.eq (.bool false), Fg.eq (.bool false), Fg.nameR (namesOf L'), Fg.eq (.pointer (some ⟨r, 0, none⟩)), Fg.strR (namesOf L'), Fg.eq (.bool true), Fg.eq (.bool false)] [95, 96, 97, 98, 99, 100, 101, 102, 103, 104, 105, 106, 107, 108, 109, 110, 111, 112, 113, 114, 115, 116, 117, 118, 119, 120, 121] (by kernel_rfl) (by kernel_rfl) (by kernel_rfl) ?_ ?_
            · intro Ls i' o' ac w1' hi' ho hA
              have hgr : Gr w7 w1' := ((Gr.refl w7).drew).trans hA.gr
              match i', hi' with
              | 0, _ =>
                obtain rfl := Option.some.inj ho
                exact gg_plain rfl (gstep_val (s_move rfl (show ac.eval (.tmp 0) = .slice (some ⟨b0, o0, none⟩) k0 c0 from hA.other 0 (by decide))) rfl)
              | 1, _ =>
                obtain rfl := Option.some.inj ho
                exact gg_plain rfl (gstep_val (s_move rfl (show ac.eval (.tmp 14) = .int .i64 (i : Int) from hA.other 14 (by decide))) rfl)
              | 2, _ =>
                obtain rfl := Option.some.inj ho
                exact gg_plain rfl (gstep_val (s_idxS rfl (hA.fact 0 (hA.dep 0 (by kernel_rfl) (by decide))) (hA.fact 1 (hA.dep 1 (by kernel_rfl) (by decide))) HLT.out) rfl)
              | 3, _ =>
                obtain rfl := Option.some.inj ho
                exact gg_plain rfl (gstep_val (s_loadT rfl (hA.fact 2 (hA.dep 2 (by kernel_rfl) (by decide))) ((HB7.out.gr.trans hgr).cell HSX.out)) rfl)
              | 4, _ =>
                obtain rfl := Option.some.inj ho
                exact gg_plain rfl (gstep_call (s_fn2 en_get rfl rfl (show ac.eval (.tmp 11) = .pointer (some ⟨p, 0, none⟩) from hA.other 11 (by decide)) (hA.fact 3 (hA.dep 3 (by kernel_rfl) (by decide)))) ((get_any (HB7.out.b.gr hgr) x HX.out).mono (fun e w2 ⟨h1, h2⟩ => ⟨_, h1, by subst h2; exact Gr.refl _, rfl⟩)))
              | 5, _ =>
                obtain rfl := Option.some.inj ho
                exact gg_plain rfl (gstep_val (s_move rfl (show ac.eval (.tmp 12) = .pointer (some ⟨r, 0, none⟩) from hA.other 12 (by decide))) rfl)
              | 6, _ =>
                obtain rfl := Option.some.inj ho
                exact gg_plain rfl (gstep_val (s_move rfl (show ac.eval (.tmp 0) = .slice (some ⟨b0, o0, none⟩) k0 c0 from hA.other 0 (by decide))) rfl)
              | 7, _ =>
                obtain rfl := Option.some.inj ho
                exact gg_plain rfl (gstep_val (s_move rfl (show ac.eval (.tmp 14) = .int .i64 (i : Int) from hA.other 14 (by decide))) rfl)
              | 8, _ =>
                obtain rfl := Option.some.inj ho
                exact gg_plain rfl (gstep_val (s_idxS rfl (hA.fact 6 (hA.dep 6 (by kernel_rfl) (by decide))) (hA.fact 7 (hA.dep 7 (by kernel_rfl) (by decide))) HLT.out) rfl)
              | 9, _ =>
                obtain rfl := Option.some.inj ho
                exact gg_plain rfl (gstep_val (s_loadT rfl (hA.fact 8 (hA.dep 8 (by kernel_rfl) (by decide))) ((HB7.out.gr.trans hgr).cell HSX.out)) rfl)
              | 10, _ =>
                obtain rfl := Option.some.inj ho
                exact gg_plain rfl (gstep_call (s_fn2 en_rget rfl rfl (hA.fact 5 (hA.dep 5 (by kernel_rfl) (by decide))) (hA.fact 9 (hA.dep 9 (by kernel_rfl) (by decide)))) ((rget_any (HB7.out.r.gr hgr) x).mono (fun e w2 ⟨h1, h2⟩ => ⟨_, h1, h2, rfl⟩)))
              | 11, _ =>
                obtain rfl := Option.some.inj ho
                exact gg_plain rfl (gstep_val (s_neqI rfl (hA.fact 4 (hA.dep 4 (by kernel_rfl) (by decide))) (hA.fact 10 (hA.dep 10 (by kernel_rfl) (by decide)))) rfl)
              | 12, _ =>
                obtain rfl := Option.some.inj ho
                exact gg_plain rfl (gstep_val (s_move rfl (hA.fact 11 (hA.dep 11 (by kernel_rfl) (by decide)))) rfl)
              | 13, _ =>
                obtain rfl := Option.some.inj ho
                exact gg_yes rfl (hA.fact 12 (hA.dep 12 (by kernel_rfl) (by decide))) (gstep_call (s_fn1 en_lines rfl rfl (show ac.eval (.tmp 11) = .pointer (some ⟨p, 0, none⟩) from hA.other 11 (by decide))) ((lines_any (HB7.out.b.gr hgr)).mono (fun e w2 ⟨h1, h2⟩ => ⟨_, h1, by subst h2; exact Gr.refl _, rfl⟩)))
              | 14, _ =>
                obtain rfl := Option.some.inj ho
                exact gg_yes rfl (hA.fact 12 (hA.dep 12 (by kernel_rfl) (by decide))) (gstep_val (s_move rfl (show ac.eval (.tmp 12) = .pointer (some ⟨r, 0, none⟩) from hA.other 12 (by decide))) rfl)
              | 15, _ =>
                obtain rfl := Option.some.inj ho
                exact gg_yes rfl (hA.fact 12 (hA.dep 12 (by kernel_rfl) (by decide))) (gstep_val (s_nil rfl (hA.fact 14 (hA.dep 14 (by kernel_rfl) (by decide)))) rfl)
              | 16, _ =>
                obtain rfl := Option.some.inj ho
                exact gg_yes rfl (hA.fact 12 (hA.dep 12 (by kernel_rfl) (by decide))) (gstep_val (s_frb rfl (hA.fact 15 (hA.dep 15 (by kernel_rfl) (by decide)))) rfl)
              | 17, _ =>
                obtain rfl := Option.some.inj ho
                exact gg_yes rfl (hA.fact 12 (hA.dep 12 (by kernel_rfl) (by decide))) (gstep_val (s_loadE ⟨_, _, _, rfl⟩ rfl (hA.fact 16 (hA.dep 16 (by kernel_rfl) (by decide))) (hgr.cell HRC.out)) rfl)
              | 18, _ =>
                obtain rfl := Option.some.inj ho
                exact gg_yes rfl (hA.fact 12 (hA.dep 12 (by kernel_rfl) (by decide))) (gstep_val (s_lenE rfl (hA.fact 17 (hA.dep 17 (by kernel_rfl) (by decide))) HL5.out) rfl)
              | 19, _ =>
                obtain rfl := Option.some.inj ho
                exact gg_yes rfl (hA.fact 12 (hA.dep 12 (by kernel_rfl) (by decide))) (gstep_val (s_neqI rfl (hA.fact 13 (hA.dep 13 (by kernel_rfl) (by decide))) (hA.fact 18 (hA.dep 18 (by kernel_rfl) (by decide)))) rfl)
              | 20, _ =>
                obtain rfl := Option.some.inj ho
                exact gg_plain rfl (gstep_val (s_pickT rfl (hA.fact 12 (hA.dep 12 (by kernel_rfl) (by decide))) (hA.fact 19 (hA.dep 19 (by kernel_rfl) (by decide)))) rfl)
              | 21, _ =>
                obtain rfl := Option.some.inj ho
                exact gg_plain rfl (gstep_val (s_move rfl (hA.fact 20 (hA.dep 20 (by kernel_rfl) (by decide)))) rfl)
              | 22, _ =>
                obtain rfl := Option.some.inj ho
                exact gg_yes rfl (hA.fact 21 (hA.dep 21 (by kernel_rfl) (by decide))) (gstep_call (s_fn1 en_names rfl rfl (show ac.eval (.tmp 11) = .pointer (some ⟨p, 0, none⟩) from hA.other 11 (by decide))) ((names_any (HB7.out.b.gr hgr)).mono (fun e w2 ⟨v, h1, h2, h3⟩ => ⟨v, h1, h3, h2⟩)))
              | 23, _ =>
                obtain rfl := Option.some.inj ho
                exact gg_yes rfl (hA.fact 21 (hA.dep 21 (by kernel_rfl) (by decide))) (gstep_val (s_move rfl (show ac.eval (.tmp 12) = .pointer (some ⟨r, 0, none⟩) from hA.other 12 (by decide))) rfl)
              | 24, _ =>
                obtain rfl := Option.some.inj ho
                exact gg_yes rfl (hA.fact 21 (hA.dep 21 (by kernel_rfl) (by decide))) (gstep_call (s_fn1 en_rnames rfl rfl (hA.fact 23 (hA.dep 23 (by kernel_rfl) (by decide)))) ((rnames_any (HB7.out.r.gr hgr)).mono (fun e w2 ⟨v, h1, h2, h3⟩ => ⟨v, h1, h3, h2⟩)))
              | 25, _ =>
                obtain rfl := Option.some.inj ho
                have hn1 : NameRow w1' (valOf _ ac 22) (namesOf L') := (hA.fact 22 (hA.dep 22 (by kernel_rfl) (by decide)))
                have hn2 : StrRow w1' (valOf _ ac 24) (namesOf L') := (hA.fact 24 (hA.dep 24 (by kernel_rfl) (by decide)))
                exact gg_yes rfl (hA.fact 21 (hA.dep 21 (by kernel_rfl) (by decide))) (gstep_call (s_fn2 en_same rfl rfl rfl rfl) ((same_any hn1.strs hn2.strs HNL.out).mono (fun e w2 ⟨h1, h2⟩ => ⟨_, h1, h2, rfl⟩)))
              | 26, _ =>
                obtain rfl := Option.some.inj ho
                exact gg_yes rfl (hA.fact 21 (hA.dep 21 (by kernel_rfl) (by decide))) (gstep_val (s_not rfl (hA.fact 25 (hA.dep 25 (by kernel_rfl) (by decide)))) rfl)
              | k' + 27, hk' => exact absurd (show k' + 27 < 27 from hk') (by omega)
            · intro vs5 w8 hg8 hv
              have v20 : vs5 20 = .bool false := hv 20 (by omega)
              have v21 : vs5 21 = .bool false := hv 21 (by omega)
              have v26 : vs5 26 = .bool false := hv 26 (by omega)
              have HB8 := Lib.hid (HB7.out.on (((Gr.refl w7).drew).trans hg8))
              clear hv hg8
              simp only [putN, List.drop_succ_cons, List.drop_zero, List.getElem?_cons_succ, List.getElem?_cons_zero, v20, v21, v26]
              clear v20 v21 v26
              generalize vs5 0 = z0 at *
              generalize vs5 1 = z1 at *
              generalize vs5 2 = z2 at *
              generalize vs5 3 = z3 at *
              generalize vs5 4 = z4 at *
              generalize vs5 5 = z5 at *
              generalize vs5 6 = z6 at *
              generalize vs5 7 = z7 at *
              generalize vs5 8 = z8 at *
              generalize vs5 9 = z9 at *
              generalize vs5 10 = z10 at *
              generalize vs5 11 = z11 at *
              generalize vs5 12 = z12 at *
              generalize vs5 13 = z13 at *
              generalize vs5 14 = z14 at *
              generalize vs5 15 = z15 at *
              generalize vs5 16 = z16 at *
              generalize vs5 17 = z17 at *
              generalize vs5 18 = z18 at *
              generalize vs5 19 = z19 at *
              generalize vs5 22 = z22 at *
              generalize vs5 23 = z23 at *
              generalize vs5 24 = z24 at *
              generalize vs5 25 = z25 at *
              go_wp2
              go_roundw
              case rel => exact ⟨i + 1, s, by omega, by go_num, rfl, by rw [← HL2.out, HNX.out]; exact HB8⟩
              case measure => simp [intOf]; omega
    · obtain rfl : i = k0 := by omega
      obtain ⟨L, hL⟩ : ∃ L, L = entTo T F i := ⟨_, rfl⟩
      rw [← hL] at HBP
      clear hL
      have HOK := Lib.hid HBP.out.b.ok
      have hjz := HOK.out.size
      have hsu : s ≤ (journal L).size := HBP.out.b.elim fun _ h => h.elim fun _ h => h.sure
      have HX4 : Hid (x4.size ≤ 50000) := Lib.hid (by rw [← HM4.out]; omega)
      obtain ⟨J, hJ⟩ : ∃ J, J = journal L := ⟨_, rfl⟩
      have HJ := Lib.hid hJ
      rw [← hJ] at hjz hsu
      clear hJ
      obtain ⟨N, hN⟩ : ∃ N, N = J.size := ⟨_, rfl⟩
      rw [← hN] at hjz hsu
      have HN := Lib.hid hN
      have n0' : (0 : Int) ≤ (N : Int) := by omega
      have n1 : (N : Int) ≤ 50000 := by omega
      have n2 : (0 : Int) ≤ (s : Int) := by omega
      have n3 : (s : Int) ≤ (N : Int) := by omega
      have hw : IntKind.i64.wrap ((J.size : Int) - (s : Int)) = (J.size : Int) - (s : Int) := by rw [IntKind.wrap_i64, ← hN]; omega
      have hJN : (J.size : Int) = (N : Int) := by rw [hN]
      clear hN
      by_cases hbad : keep < 0 ∨ (N : Int) - (s : Int) < keep
      · have HBAD := Lib.hid hbad
        have hbare : ∀ u, Gr W u → Calls Tryz.prog 5 #[errV 2, .int .i64 2] u fun e w' => e = .returned (.bool true) ∧ Gr u w' := fun u hu => bare_true u (HGB.out.gr hu) (errV_is u 2)
        have HBARE := Lib.hid hbare
        have hev : errV 2 = .iface 37 (.int .i64 2) := rfl
        rw [hev] at HBARE
        clear hbare hev
        by_cases hneg : keep < 0
        · clear hbad
          go_wp2_with (first
            | (go_at_call 11; refine (rjournal_any HBP.out.r (HTB.out.gr HBP.out.gr)).mono ?_; rintro e w6 ⟨rfl, h6⟩; have HB6 := Lib.hid (HBP.out.on h6); rw [← HJ.out]; clear h6)
            | (go_at_call 18; refine (crash_no HB6.out.b keep _ (by rw [← HJ.out, ← HN.out]; exact HBAD.out)).mono ?_; rintro e w7 ⟨rfl, h7⟩; have HB7 := Lib.hid (HB6.out.on h7); clear h7)
            | (go_at_call 5; refine (HBARE.out _ HB7.out.gr).mono ?_; rintro e w8 ⟨rfl, h8⟩; have HG8 := Lib.hid (HB7.out.gr.trans h8); clear h8))
          go_ret
          exact ⟨rfl, HG8.out⟩
        · have hpos : (N : Int) - (s : Int) < keep := hbad.resolve_left hneg
          have hpos2 : (J.size : Int) - (s : Int) < keep := by omega
          clear hbad
          go_wp2_with (first
            | (go_at_call 11; refine (rjournal_any HBP.out.r (HTB.out.gr HBP.out.gr)).mono ?_; rintro e w6 ⟨rfl, h6⟩; have HB6 := Lib.hid (HBP.out.on h6); rw [← HJ.out]; clear h6)
            | (go_at_call 18; refine (crash_no HB6.out.b keep _ (by rw [← HJ.out, ← HN.out]; exact HBAD.out)).mono ?_; rintro e w7 ⟨rfl, h7⟩; have HB7 := Lib.hid (HB6.out.on h7); clear h7)
            | (go_at_call 5; refine (HBARE.out _ HB7.out.gr).mono ?_; rintro e w8 ⟨rfl, h8⟩; have HG8 := Lib.hid (HB7.out.gr.trans h8); clear h8))
          all_goals (try (exfalso; omega))
          go_ret
          exact ⟨rfl, HG8.out⟩
      · obtain ⟨k, rfl⟩ : ∃ k : Nat, keep = (k : Int) := ⟨keep.toNat, by omega⟩
        have q0 : ¬ (k : Int) < 0 := by omega
        have q1 : ¬ (J.size : Int) - (s : Int) < (k : Int) := by omega
        have HKK : Hid (s + k ≤ (journal L).size) := Lib.hid (by rw [← HJ.out, ← HN.out]; omega)
        obtain ⟨D, hD⟩ : ∃ D, D = (journal L).extract 0 (s + k) ++ x4 := ⟨_, rfl⟩
        have HD := Lib.hid hD
        clear hD hbad
        go_upto_region 22 with (first
          | (go_at_call 11; refine (rjournal_any HBP.out.r (HTB.out.gr HBP.out.gr)).mono ?_; rintro e w6 ⟨rfl, h6⟩; have HB6 := Lib.hid (HBP.out.on h6); rw [← HJ.out]; clear h6)
          | (go_at_call 18; refine (crash_yes HB6.out.b (H4.out.gr HB6.out.gr) HX4.out HKK.out).mono ?_; rintro e w7 ⟨z, rfl, h7, h8⟩; have HB7 := Lib.hid (HB6.out.on h8); have HZ := Lib.hid h7; rw [← HD.out] at HZ; clear h7 h8))
        all_goals (try (exfalso; omega))
        rw [HJ.out] at HN
        refine wp_region_gg (n := 15) [Fg.eq (.nilIface), Fg.eq (.bool true), Fg.eq (.bool true), Fg.eq (z), Fg.eq (.string D), Fg.eq (.string J), Fg.eq (.int .i64 (s : Int)), Fg.eq (.int .i64 (k : Int)), Fg.eq (.int .i64 ((s + k : Nat) : Int)), Fg.eq (.string (J.extract 0 (s + k))), Fg.eq (.slice a4 m4 c4), Fg.eq (.string x4), Fg.eq (.string D), Fg.eq (.bool true), Fg.eq (.bool true)] [148, 149, 150, 151, 152, 153, 154, 155, 156, 157, 158, 159, 160, 161, 162] (by kernel_rfl) (by kernel_rfl) (by kernel_rfl) ?_ ?_
        · intro Ls i' o' ac w1' hi' ho hA
          have hgr : Gr w7 w1' := ((Gr.refl w7).drew).trans hA.gr
          match i', hi' with
          | 0, _ =>
            obtain rfl := Option.some.inj ho
            exact gg_plain rfl (gstep_val (s_move rfl (show ac.eval (.tmp 17) = .nilIface from hA.other 17 (by decide))) rfl)
          | 1, _ =>
            obtain rfl := Option.some.inj ho
            exact gg_plain rfl (gstep_val (s_eqNil rfl (hA.fact 0 (hA.dep 0 (by kernel_rfl) (by decide)))) rfl)
          | 2, _ =>
            obtain rfl := Option.some.inj ho
            exact gg_plain rfl (gstep_val (s_move rfl (hA.fact 1 (hA.dep 1 (by kernel_rfl) (by decide)))) rfl)
          | 3, _ =>
            obtain rfl := Option.some.inj ho
            exact gg_yes rfl (hA.fact 2 (hA.dep 2 (by kernel_rfl) (by decide))) (gstep_val (s_move rfl (show ac.eval (.tmp 16) = z from hA.other 16 (by decide))) rfl)
          | 4, _ =>
            obtain rfl := Option.some.inj ho
            exact gg_yes rfl (hA.fact 2 (hA.dep 2 (by kernel_rfl) (by decide))) (gstep_val (s_conv rfl (hA.fact 3 (hA.dep 3 (by kernel_rfl) (by decide))) ((HZ.out.gr hgr).bytes)) rfl)
          | 5, _ =>
            obtain rfl := Option.some.inj ho
            exact gg_yes rfl (hA.fact 2 (hA.dep 2 (by kernel_rfl) (by decide))) (gstep_val (s_move rfl (show ac.eval (.tmp 15) = .string J from hA.other 15 (by decide))) rfl)
          | 6, _ =>
            obtain rfl := Option.some.inj ho
            exact gg_yes rfl (hA.fact 2 (hA.dep 2 (by kernel_rfl) (by decide))) (gstep_val (s_move rfl (show ac.eval (.tmp 13) = .int .i64 (s : Int) from hA.other 13 (by decide))) rfl)
          | 7, _ =>
            obtain rfl := Option.some.inj ho
            exact gg_yes rfl (hA.fact 2 (hA.dep 2 (by kernel_rfl) (by decide))) (gstep_val (s_move rfl (show ac.eval (.tmp 3) = .int .i64 (k : Int) from hA.other 3 (by decide))) rfl)
          | 8, _ =>
            obtain rfl := Option.some.inj ho
            exact gg_yes rfl (hA.fact 2 (hA.dep 2 (by kernel_rfl) (by decide))) (gstep_val (s_addN rfl (hA.fact 6 (hA.dep 6 (by kernel_rfl) (by decide))) (hA.fact 7 (hA.dep 7 (by kernel_rfl) (by decide))) (by omega) (by omega) (by omega)) rfl)
          | 9, _ =>
            obtain rfl := Option.some.inj ho
            exact gg_yes rfl (hA.fact 2 (hA.dep 2 (by kernel_rfl) (by decide))) (gstep_val (s_preS rfl (hA.fact 5 (hA.dep 5 (by kernel_rfl) (by decide))) (hA.fact 8 (hA.dep 8 (by kernel_rfl) (by decide))) (by have := HKK.out; rw [← HJ.out] at this; exact this)) rfl)
          | 10, _ =>
            obtain rfl := Option.some.inj ho
            exact gg_yes rfl (hA.fact 2 (hA.dep 2 (by kernel_rfl) (by decide))) (gstep_val (s_move rfl (show ac.eval (.tmp 4) = .slice a4 m4 c4 from hA.other 4 (by decide))) rfl)
          | 11, _ =>
            obtain rfl := Option.some.inj ho
            exact gg_yes rfl (hA.fact 2 (hA.dep 2 (by kernel_rfl) (by decide))) (gstep_val (s_conv rfl (hA.fact 10 (hA.dep 10 (by kernel_rfl) (by decide))) (H4.out.gr (HB7.out.gr.trans hgr))) rfl)
          | 12, _ =>
            obtain rfl := Option.some.inj ho
            refine gg_yes rfl (hA.fact 2 (hA.dep 2 (by kernel_rfl) (by decide))) (gstep_val (u := .string D) ?_ rfl)
            rw [HD.out, ← HJ.out]
            exact s_cat rfl (hA.fact 9 (hA.dep 9 (by kernel_rfl) (by decide))) (hA.fact 11 (hA.dep 11 (by kernel_rfl) (by decide))) (by have := HX4.out; rw [ext_len (by have := HKK.out; rw [← HJ.out] at this; exact this)]; omega)
          | 13, _ =>
            obtain rfl := Option.some.inj ho
            exact gg_yes rfl (hA.fact 2 (hA.dep 2 (by kernel_rfl) (by decide))) (gstep_val (s_eqS rfl (hA.fact 4 (hA.dep 4 (by kernel_rfl) (by decide))) (hA.fact 12 (hA.dep 12 (by kernel_rfl) (by decide)))) rfl)
          | 14, _ =>
            obtain rfl := Option.some.inj ho
            exact gg_plain rfl (gstep_val (s_pickF rfl (hA.fact 2 (hA.dep 2 (by kernel_rfl) (by decide))) (hA.fact 13 (hA.dep 13 (by kernel_rfl) (by decide)))) rfl)
          | k' + 15, hk' => exact absurd (show k' + 15 < 15 from hk') (by omega)
        · intro vs5 w8 hg8 hv
          have v14 : vs5 14 = .bool true := hv 14 (by omega)
          have HG8 := Lib.hid (HB7.out.gr.trans (((Gr.refl w7).drew).trans hg8))
          clear hv hg8
          simp only [putN, List.drop_succ_cons, List.drop_zero, List.getElem?_cons_succ, List.getElem?_cons_zero, v14]
          clear v14
          generalize vs5 0 = z0 at *
          generalize vs5 1 = z1 at *
          generalize vs5 2 = z2 at *
          generalize vs5 3 = z3 at *
          generalize vs5 4 = z4 at *
          generalize vs5 5 = z5 at *
          generalize vs5 6 = z6 at *
          generalize vs5 7 = z7 at *
          generalize vs5 8 = z8 at *
          generalize vs5 9 = z9 at *
          generalize vs5 10 = z10 at *
          generalize vs5 11 = z11 at *
          generalize vs5 12 = z12 at *
          generalize vs5 13 = z13 at *
          go_wp2
          go_ret
          exact ⟨rfl, HG8.out⟩
end Go.Proofs.YticifnegoacopaaGreatDoor

/-
  The program's Open. (Printed by genbokob.py.)
-/
import Derived.Test.YticifnegoacopaaGreatDoorBokOA
namespace Go.Proofs.YticifnegoacopaaGreatDoor
open Go Go.RowKit

theorem en_line : ∀ args w, (callFunc 23 args).run Tryz.prog w = .ok (.enter 23 args) w := enters_of Tryz.func23 (by kernel_rfl) rfl
section
variable {ev : Operand → Value} {o : Oper} {w : World} {x y z : Operand} {u : Value}
theorem s_neNil {t : TypeId} {q : Value} (ho : o.op = .binOp .neq 35 x (.const .nilIface) 35) (h : ev x = .iface t q) (k : ev (.const .nilIface) = .nilIface := by rfl) : (execOp ev o).run Tryz.prog w = .ok (.value (.bool true)) w := by
  simp [execOp, ho, h, k, go_sem]
theorem s_neNil0 (ho : o.op = .binOp .neq 35 x (.const .nilIface) 35) (h : ev x = .nilIface) (k : ev (.const .nilIface) = .nilIface := by rfl) : (execOp ev o).run Tryz.prog w = .ok (.value (.bool false)) w := by
  have e : (binOp .neq 35 .nilIface .nilIface).run Tryz.prog w = .ok (.bool false) w := by kernel_rfl
  simp [execOp, ho, h, k, e, go_sem]
theorem s_neS {a b : ByteArray} (ho : o.op = .binOp .neq 9 x y 9) (h : ev x = .string a) (k : ev y = .string b) (hn : a ≠ b) : (execOp ev o).run Tryz.prog w = .ok (.value (.bool true)) w := by
  have := beqS_no hn
  simp [execOp, ho, h, k, this, go_sem]
theorem s_neS0 {a b : ByteArray} (ho : o.op = .binOp .neq 9 x y 9) (h : ev x = .string a) (k : ev y = .string b) (hn : a = b) : (execOp ev o).run Tryz.prog w = .ok (.value (.bool false)) w := by
  subst hn
  simp [execOp, ho, h, k, go_sem]
theorem s_pickTT (ho : o.op = .pick x (.const (.bool true)) y) (h : ev x = .bool true) (k : ev (.const (.bool true)) = .bool true := by rfl) : (execOp ev o).run Tryz.prog w = .ok (.value (.bool true)) w := by simp [execOp, ho, h, k, go_sem]
end
/-- In the midst of one line: whether Add is through. -/
structure IOp (w : World) (n0 p g : Nat) (L L' : List Ent) (P : List ByteArray) (b : Bool) (W : World) : Prop where
  b : Bok W n0 p (cond b L' L) 0
  p : PcsAt W g P
  gr : Gr w W
theorem IOp.on {w : World} {n0 p g : Nat} {L L' : List Ent} {P : List ByteArray} {b : Bool} {W W' : World} (h : IOp w n0 p g L L' P b W) (k : Gr W W') : IOp w n0 p g L L' P b W' := ⟨h.b.gr k, h.p.gr k, h.gr.trans k⟩
theorem book_new (W : World) : Bok (W.alloc (.cells #[.map none, .int .i64 0, .slice none 0 0, .int .i64 0] 28)) W.heap.size W.heap.size [] 0 :=
  ⟨_, _, ⟨heap_alloc_new W _, Nat.le_refl _, by simp, World.ownsRow_nil _ _ _ _, .inl ⟨rfl, rfl⟩, EntOk.nil, Nat.le_refl _⟩⟩
def mesL (p : Nat) (w : World) : Nat := match w.cell? ⟨p, 1, none⟩ with
  | some (.int .i64 z) => 1000 - z.toNat
  | _ => 0
theorem mesL_at {w : World} {n0 p s : Nat} {L : List Ent} (h : Bok w n0 p L s) : mesL p w = 1000 - L.length := by
  obtain ⟨mv, dv, h⟩ := h
  unfold mesL
  rw [h.c1]
  simp
/-- Between two lines. -/
structure OPI (w : World) (n0 p : Nat) (d : ByteArray) (L : List Ent) (wr : World) : Prop where
  b : Bok wr n0 p L 0
  gr : Gr w wr
  st : ∃ m, stO d m = some ((journal L).size, L)
  le : (journal L).size ≤ d.size

set_option maxRecDepth 100000 in
set_option maxHeartbeats 16000000 in
/-- The program's Open. -/
theorem open_any {w : World} {a : Option Addr} {n c : Nat} {d : ByteArray} (h : BytesC w a n c d) (hd : d.size ≤ 3000) (he : Env w) : Calls Tryz.prog 19 #[.slice a n c] w fun e w' => ∃ p L at_, e = .returned (.tuple #[.pointer (some ⟨p, 0, none⟩), .int .i64 ((at_ : Nat) : Int)]) ∧ Bok w' w.heap.size p L at_ ∧ at_ = (journal L).size ∧ EndO d at_ L ∧ Gr w w' := by
  have HD := Lib.hid h
  have HDS := Lib.hid hd
  have HEN := Lib.hid he
  have HTB := Lib.hid he.tab
  have HDN := Lib.hid h.len
  have HB0 := Lib.hid (book_new w)
  have HG0 : Hid (Gr w (w.alloc (.cells #[.map none, .int .i64 0, .slice none 0 0, .int .i64 0] 28))) := Lib.hid ((Gr.refl w).alloc _)
  obtain ⟨n0, hn0⟩ : ∃ n, n = w.heap.size := ⟨_, rfl⟩
  obtain ⟨p, hp⟩ : ∃ n, n = w.heap.size := ⟨_, rfl⟩
  have HN0 : Hid (w.heap.size ≤ n0) := Lib.hid (by omega)
  have HBA : Hid (Bok (w.alloc (.cells #[.map none, .int .i64 0, .slice none 0 0, .int .i64 0] 28)) n0 p [] 0) := Lib.hid (by rw [hn0, hp]; exact HB0.out)
  have HZN : Hid (n0 = w.heap.size) := Lib.hid hn0
  have n9 : (0 : Int) ≤ (n : Int) := by omega
  clear HB0 hn0 h hd he
  rw [← HZN.out]
  go_enter Tryz.func19, Tryz.ntmps19
  go_wp2
  rw [← hp]
  clear hp
  go_loopw [5] (fun s5 wr => ∃ L, Hid (OPI w n0 p d L wr)) (fun _ wr => mesL p wr)
  case atStart => exact ⟨[], Lib.hid ⟨HBA.out, HG0.out, ⟨0, rfl⟩, Nat.zero_le _⟩⟩
  case round =>
    clear HBA HG0
    obtain ⟨L, HO⟩ := hrel
    obtain ⟨mv, dv, hb⟩ := HO.out.b
    obtain ⟨da, dc, rfl⟩ := hb.shape
    have c2 := hb.c2
    have HBE := Lib.hid HO.out.b
    have HGE := Lib.hid HO.out.gr
    have HOK := Lib.hid hb.ok
    have HST := Lib.hid HO.out.st
    clear hb
    obtain ⟨A, hA⟩ : ∃ A, A = (journal L).size := ⟨_, rfl⟩
    have HA := Lib.hid hA
    have HAN : Hid (A ≤ n) := Lib.hid (by have := HO.out.le; have := HDN.out; omega)
    rw [← hA] at c2
    clear hA
    obtain ⟨R, hR⟩ : ∃ R, R = d.extract A d.size := ⟨_, rfl⟩
    have HRR := Lib.hid hR
    have HRS : Hid (R.size = n - A) := Lib.hid (by rw [hR, drop_len, ← HDN.out])
    have a0 : (0 : Int) ≤ (A : Int) := by omega
    clear hR
    rcases Lib.indexB_cases R kNl with hix | ⟨k, hix, _⟩
    · have HIX := Lib.hid hix
      clear hix
      go_wp2_with (first
        | (refine wpList_dropB (by rfl) (.tmp 12) (.tmp 17) (by rfl) (by rfl) (by rfl) HD.out (k := A) HAN.out ?_; intro b' hb'; rw [← HRR.out] at hb'; have HR0 := Lib.hid hb'; clear hb')
        | (go_at_call 30; refine (idxByte_any (HR0.out.gr HGE.out)).mono ?_; rintro e w2 ⟨rfl, rfl⟩; rw [HIX.out])
        | (go_at_call 10; refine (sync_any HBE.out).mono ?_; rintro e w8 ⟨rfl, h8, k8⟩; have HB8 := Lib.hid h8; have HG8 := Lib.hid (k8.gr HGE.out HN0.out HBE.out.low); obtain ⟨mv8, dv8, hb8⟩ := h8; obtain ⟨da8, dc8, rfl⟩ := hb8.shape; have d2 := hb8.c2; clear k8 hb8))
      go_quiet (fail)
      go_wp2
      exact bodyPost_ret (v := .tuple #[.pointer (some ⟨p, 0, none⟩), .int .i64 ((journal L).size : Int)]) (by simp [results, Tryz.results19, go_sem]) rfl ⟨p, L, (journal L).size, rfl, (HB8.out.gr ((Gr.refl _).drewN _)), rfl, ⟨HST.out, by rw [← HA.out]; exact stepO_nonl (by rw [← HRR.out]; exact HIX.out)⟩, HG8.out.trans ((Gr.refl _).drewN _)⟩
    · have HIX := Lib.hid hix
      have hnl := nl_at hix
      have HNL := Lib.hid hnl.2
      have HK : Hid (k + 1 ≤ n - A) := Lib.hid (by have := hnl.1; have := HRS.out; omega)
      have HKR : Hid (k ≤ n - A) := Lib.hid (by have := HK.out; omega)
      have HLS : Hid ((R.extract 0 k).size ≤ 20001) := Lib.hid (by rw [ext_len (by have := HKR.out; have := HRS.out; omega)]; have := HKR.out; have := HDS.out; have := HDN.out; omega)
      have q0 : (0 : Int) ≤ (k : Int) := by omega
      have q1 : ¬ (k : Int) < 0 := by omega
      clear hix hnl
      by_cases h4 : (pcs kSp (R.extract 0 k)).length = 4
      · obtain ⟨p0, p1, p2, p3, hp4⟩ : ∃ p0 p1 p2 p3, pcs kSp (R.extract 0 k) = [p0, p1, p2, p3] := by
          cases e : pcs kSp (R.extract 0 k) with
          | nil => rw [e] at h4; cases h4
          | cons x1 l1 => cases l1 with
            | nil => rw [e] at h4; cases h4
            | cons x2 l2 => cases l2 with
              | nil => rw [e] at h4; cases h4
              | cons x3 l3 => cases l3 with
                | nil => rw [e] at h4; cases h4
                | cons x4 l4 => cases l4 with
                  | nil => exact ⟨_, _, _, _, rfl⟩
                  | cons x5 l5 => rw [e] at h4; simp at h4
        have HP4 := Lib.hid hp4
        have hsz : p1.size ≤ 3000 ∧ p2.size ≤ 3000 := by
          have h5 := congrArg List.length (pcs_four hp4).1
          have h6 : (R.extract 0 k).data.toList.length = (R.extract 0 k).size := Array.length_toList
          have h7 : p1.data.toList.length = p1.size := Array.length_toList
          have h8 : p2.data.toList.length = p2.size := Array.length_toList
          rw [h6, ext_len (by have := HKR.out; have := HRS.out; omega)] at h5
          simp only [List.length_append, List.length_cons, h7, h8] at h5
          have := HKR.out; have := HDS.out; have := HDN.out
          omega
        have HPS := Lib.hid hsz.1
        have HP2 : Hid (p2.size ≤ 20001) := Lib.hid (by omega)
        clear hp4 hsz h4
        rcases Classical.em (∃ v, Lib.atoiAll p2.data.toList = .ok v) with ⟨n1, hat⟩ | hno
        · have HAT := Lib.hid hat
          obtain ⟨X, hX⟩ : ∃ X, X = R.extract 0 (k + 1) := ⟨_, rfl⟩
          obtain ⟨L', hL'⟩ : ∃ L', L' = addL L p1 n1 := ⟨_, rfl⟩
          have HLL := Lib.hid hL'
          clear hat hL'
          have HX : Hid (X = R.extract 0 (k + 1)) := Lib.hid hX
          have HBL : Hid (Bd (L.length : Int)) := Lib.hid (by have := HOK.out.1; unfold Bd; omega)
          have HBN : Hid (Bd n1) := Lib.hid (atoi_bd HAT.out)
          clear hX
          have kb : (k : Int) ≤ 3000 := by have := HK.out; have := HDS.out; have := HDN.out; omega
          by_cases hj : jline (L.length : Int) (p1, n1) = X
          · have HNE := Lib.hid hj
            clear hj
            by_cases hadd : addC L p1 n1 = 0
            · have HAD := Lib.hid hadd
              have HEV : Hid (errV (addC L p1 n1) = .nilIface) := Lib.hid (errV_zero hadd)
              clear hadd
              go_upto_region 8 with (first
                | (refine wpList_dropB (by rfl) (.tmp 12) (.tmp 17) (by rfl) (by rfl) (by rfl) HD.out (k := A) HAN.out ?_; intro b' hb'; rw [← HRR.out] at hb'; have HR0 := Lib.hid hb'; clear hb')
                | (go_at_call 30; refine (idxByte_any (HR0.out.gr HGE.out)).mono ?_; rintro e w2 ⟨rfl, rfl⟩; rw [HIX.out])
                | (refine wpList_preB (by rfl) (.tmp 23) (.tmp 24) (by rfl) (by rfl) (by rfl) HR0.out (k := k) HKR.out ?_; intro hp'; have HPR := Lib.hid hp'; clear hp')
                | (refine wpList_convB (by rfl) (.tmp 25) (by rfl) (by rfl) (HPR.out.b.gr HGE.out) ?_)
                | (go_at_call 31; refine (split_any (R.extract 0 k) HLS.out _ (HEN.out.gr HGE.out)).mono ?_; rintro e w3 ⟨g, rfl, hp3, hg3⟩; rw [HP4.out] at hp3; rw [HP4.out, show ([p0, p1, p2, p3] : List ByteArray).length = 4 from rfl]; have k2 : w3.cell? ⟨g, 2, none⟩ = some (.string p2) := hp3.at_ (k := 2) (show 2 < 4 by decide); have HP3 := Lib.hid hp3; have HBE3 := Lib.hid (HBE.out.gr hg3); have HGE3 := Lib.hid (HGE.out.trans hg3); clear hp3 hg3)
                | (go_at_call 32; refine (atoi_g_ok p2 HP2.out _ (HEN.out.gr HGE3.out) HAT.out).mono ?_; rintro e w5 ⟨rfl, hg5⟩; have HB5 := Lib.hid (HBE3.out.gr hg5); have HG5 := Lib.hid (HGE3.out.trans hg5); have HP5 := Lib.hid (HP3.out.gr hg5); clear hg5))
              obtain ⟨rn, hrn⟩ : ∃ x, x = n - A := ⟨_, rfl⟩
              obtain ⟨rc, hrc⟩ : ∃ x, x = c - A := ⟨_, rfl⟩
              have HR := HR0
              have HRN := Lib.hid hrn
              rw [← hrn] at HK HR ⊢
              rw [← hrc] at HR ⊢
              clear hrn hrc HR0 HBE HGE k2
              refine wp_region_w (n := 27) (fun G W' => IOp w n0 p g L L' [p0, p1, p2, p3] (G 25) W') [.nilIface, .bool false, .bool false, .pointer (some ⟨p, 0, none⟩), .pointer (some ⟨p, 0, none⟩), .pointer (some ⟨p, 1, none⟩), .int .i64 (L.length : Int), .slice (some ⟨g, 0, none⟩) 4 4, .pointer (some ⟨g, 0 + 1, none⟩), .string p1, .int .i64 n1, .string (jline (L.length : Int) (p1, n1)), .slice b' rn rc, .int .i64 (k : Int), .int .i64 ((k + 1 : Nat) : Int), .slice b' (k + 1) rc, .string X, .bool false, .bool false, .bool false, .pointer (some ⟨p, 0, none⟩), .slice (some ⟨g, 0, none⟩) 4 4, .pointer (some ⟨g, 0 + 1, none⟩), .string p1, .int .i64 n1, .nilIface, .bool false] [38, 39, 40, 41, 42, 43, 44, 45, 46, 47, 48, 49, 50, 51, 52, 53, 54, 55, 56, 57, 58, 59, 60, 61, 62, 63, 64] ?_ (by kernel_rfl) (by kernel_rfl) (by kernel_rfl) ?_ ?_
              · exact ⟨HB5.out.gr ((Gr.refl _).drew), HP5.out.gr ((Gr.refl _).drew), HG5.out.trans ((Gr.refl _).drew)⟩
              · intro G i' o' ac w1' hi' ho hA hI
                match i', hi' with
                | 0, _ =>
                  obtain rfl := Option.some.inj ho
                  exact w_val (w_plain rfl) (s_move rfl (show ac.eval (.tmp 9) = .nilIface from hA.other 9 (by decide))) rfl hI
                | 1, _ =>
                  obtain rfl := Option.some.inj ho
                  exact w_val (w_plain rfl) (s_neNil0 rfl (hA.dep 0 (by kernel_rfl) (by decide))) rfl hI
                | 2, _ =>
                  obtain rfl := Option.some.inj ho
                  exact w_val (w_plain rfl) (s_move rfl (hA.dep 1 (by kernel_rfl) (by decide))) rfl hI
                | 3, _ =>
                  obtain rfl := Option.some.inj ho
                  exact w_val (w_yes rfl (hA.dep 2 (by kernel_rfl) (by decide))) (s_move rfl (show ac.eval (.tmp 4) = .pointer (some ⟨p, 0, none⟩) from hA.other 4 (by decide))) rfl hI
                | 4, _ =>
                  obtain rfl := Option.some.inj ho
                  exact w_val (w_yes rfl (hA.dep 2 (by kernel_rfl) (by decide))) (s_nil rfl (hA.dep 3 (by kernel_rfl) (by decide))) rfl hI
                | 5, _ =>
                  obtain rfl := Option.some.inj ho
                  exact w_val (w_yes rfl (hA.dep 2 (by kernel_rfl) (by decide))) (s_fb1 rfl (hA.dep 4 (by kernel_rfl) (by decide))) rfl hI
                | 6, _ =>
                  obtain rfl := Option.some.inj ho
                  have hno : G 25 = false := by
                    cases e : G 25 with
                    | false => rfl
                    | true =>
                      have a1 := hA.closed 25 19 e (by kernel_rfl) (by decide)
                      have a2 := hA.closed 19 18 a1 (by kernel_rfl) (by decide)
                      have a3 := hA.closed 18 17 a2 (by kernel_rfl) (by decide)
                      have a4 := hA.closed 17 11 a3 (by kernel_rfl) (by decide)
                      have a5 := hA.closed 11 6 a4 (by kernel_rfl) (by decide)
                      have a6 := hA.self
                      rw [a6] at a5
                      cases a5
                  have hI0 : IOp w n0 p g L L' [p0, p1, p2, p3] (G 25) w1' := hI
                  rw [hno] at hI0
                  obtain ⟨mv9, dv9, hb9⟩ := hI0.b
                  exact w_val (w_yes rfl (hA.dep 2 (by kernel_rfl) (by decide))) (s_loadN rfl (hA.dep 5 (by kernel_rfl) (by decide)) hb9.c1) rfl hI
                | 7, _ =>
                  obtain rfl := Option.some.inj ho
                  exact w_val (w_yes rfl (hA.dep 2 (by kernel_rfl) (by decide))) (s_move rfl (show ac.eval (.tmp 7) = .slice (some ⟨g, 0, none⟩) 4 4 from hA.other 7 (by decide))) rfl hI
                | 8, _ =>
                  obtain rfl := Option.some.inj ho
                  exact w_val (w_yes rfl (hA.dep 2 (by kernel_rfl) (by decide))) (s_idxS rfl (hA.dep 7 (by kernel_rfl) (by decide)) rfl (show 1 < 4 by decide)) rfl hI
                | 9, _ =>
                  obtain rfl := Option.some.inj ho
                  exact w_val (w_yes rfl (hA.dep 2 (by kernel_rfl) (by decide))) (s_loadT rfl (hA.dep 8 (by kernel_rfl) (by decide)) (hI.p.at_ (k := 1) (show 1 < 4 by decide))) rfl hI
                | 10, _ =>
                  obtain rfl := Option.some.inj ho
                  exact w_val (w_yes rfl (hA.dep 2 (by kernel_rfl) (by decide))) (s_move rfl (show ac.eval (.tmp 8) = .int .i64 n1 from hA.other 8 (by decide))) rfl hI
                | 11, _ =>
                  obtain rfl := Option.some.inj ho
                  refine w_call (w_yes rfl (hA.dep 2 (by kernel_rfl) (by decide))) (s_fn3 en_line rfl rfl (hA.dep 6 (by kernel_rfl) (by decide)) (hA.dep 9 (by kernel_rfl) (by decide)) (hA.dep 10 (by kernel_rfl) (by decide))) ?_
                  refine (line_any _ n1 p1 HBL.out HBN.out HPS.out w1' (HTB.out.gr hI.gr)).mono ?_
                  rintro e w2 ⟨rfl, h2⟩
                  exact ⟨rfl, hI.on h2⟩
                | 12, _ =>
                  obtain rfl := Option.some.inj ho
                  exact w_val (w_yes rfl (hA.dep 2 (by kernel_rfl) (by decide))) (s_move rfl (show ac.eval (.tmp 5) = .slice b' rn rc from hA.other 5 (by decide))) rfl hI
                | 13, _ =>
                  obtain rfl := Option.some.inj ho
                  exact w_val (w_yes rfl (hA.dep 2 (by kernel_rfl) (by decide))) (s_move rfl (show ac.eval (.tmp 6) = .int .i64 (k : Int) from hA.other 6 (by decide))) rfl hI
                | 14, _ =>
                  obtain rfl := Option.some.inj ho
                  exact w_val (w_yes rfl (hA.dep 2 (by kernel_rfl) (by decide))) (s_addN rfl (hA.dep 13 (by kernel_rfl) (by decide)) rfl (by omega) (by omega) (by omega)) rfl hI
                | 15, _ =>
                  obtain rfl := Option.some.inj ho
                  exact w_val (w_yes rfl (hA.dep 2 (by kernel_rfl) (by decide))) (s_preB rfl (hA.dep 12 (by kernel_rfl) (by decide)) (hA.dep 14 (by kernel_rfl) (by decide)) HK.out HR.out.cap HR.out.nil) rfl hI
                | 16, _ =>
                  obtain rfl := Option.some.inj ho
                  exact w_val (w_yes rfl (hA.dep 2 (by kernel_rfl) (by decide))) (s_conv rfl (hA.dep 15 (by kernel_rfl) (by decide)) (by rw [HX.out]; exact (HR.out.pre HK.out).b.gr hI.gr)) rfl hI
                | 17, _ =>
                  obtain rfl := Option.some.inj ho
                  exact w_val (w_yes rfl (hA.dep 2 (by kernel_rfl) (by decide))) (s_neS0 rfl (hA.dep 11 (by kernel_rfl) (by decide)) (hA.dep 16 (by kernel_rfl) (by decide)) HNE.out) rfl hI
                | 18, _ =>
                  obtain rfl := Option.some.inj ho
                  exact w_val (w_plain rfl) (s_pickT rfl (hA.dep 2 (by kernel_rfl) (by decide)) (hA.dep 17 (by kernel_rfl) (by decide))) rfl hI
                | 19, _ =>
                  obtain rfl := Option.some.inj ho
                  exact w_val (w_plain rfl) (s_move rfl (hA.dep 18 (by kernel_rfl) (by decide))) rfl hI
                | 20, _ =>
                  obtain rfl := Option.some.inj ho
                  exact w_val (w_yes rfl (hA.dep 19 (by kernel_rfl) (by decide))) (s_move rfl (show ac.eval (.tmp 4) = .pointer (some ⟨p, 0, none⟩) from hA.other 4 (by decide))) rfl hI
                | 21, _ =>
                  obtain rfl := Option.some.inj ho
                  exact w_val (w_yes rfl (hA.dep 19 (by kernel_rfl) (by decide))) (s_move rfl (show ac.eval (.tmp 7) = .slice (some ⟨g, 0, none⟩) 4 4 from hA.other 7 (by decide))) rfl hI
                | 22, _ =>
                  obtain rfl := Option.some.inj ho
                  exact w_val (w_yes rfl (hA.dep 19 (by kernel_rfl) (by decide))) (s_idxS rfl (hA.dep 21 (by kernel_rfl) (by decide)) rfl (show 1 < 4 by decide)) rfl hI
                | 23, _ =>
                  obtain rfl := Option.some.inj ho
                  exact w_val (w_yes rfl (hA.dep 19 (by kernel_rfl) (by decide))) (s_loadT rfl (hA.dep 22 (by kernel_rfl) (by decide)) (hI.p.at_ (k := 1) (show 1 < 4 by decide))) rfl hI
                | 24, _ =>
                  obtain rfl := Option.some.inj ho
                  exact w_val (w_yes rfl (hA.dep 19 (by kernel_rfl) (by decide))) (s_move rfl (show ac.eval (.tmp 8) = .int .i64 n1 from hA.other 8 (by decide))) rfl hI
                | 25, _ =>
                  obtain rfl := Option.some.inj ho
                  refine w_call (w_yes rfl (hA.dep 19 (by kernel_rfl) (by decide))) (s_fn3 en_add rfl rfl (hA.dep 20 (by kernel_rfl) (by decide)) (hA.dep 23 (by kernel_rfl) (by decide)) (hA.dep 24 (by kernel_rfl) (by decide))) ?_
                  have hI0 : IOp w n0 p g L L' [p0, p1, p2, p3] (G 25) w1' := hI
                  have hself := hA.self
                  rw [hself] at hI0
                  have hB0 : Bok w1' n0 p L 0 := hI0.b
                  refine (add_any hB0 p1 n1 HPS.out (fun u ku => HTB.out.gr (ku.gr hI0.gr HN0.out hI0.b.low))).mono ?_
                  rintro e w2 ⟨rfl, h2, h3⟩
                  exact ⟨by rw [HEV.out]; rfl, by rw [HLL.out]; exact h2, hI0.p.keep hI0.b h3, h3.gr hI0.gr HN0.out hI0.b.low⟩
                | 26, _ =>
                  obtain rfl := Option.some.inj ho
                  exact w_val (w_yes rfl (hA.dep 19 (by kernel_rfl) (by decide))) (s_neNil0 rfl (hA.dep 25 (by kernel_rfl) (by decide))) rfl hI
                | k' + 27, hk' => exact absurd (show k' + 27 < 27 from hk') (by omega)
              · intro G w6 hG hI
                have hI0 : IOp w n0 p g L L' [p0, p1, p2, p3] (G 25) w6 := hI
                have e25 := hG 25 (by omega)
                rw [e25] at hI0
                clear e25
                have HBE : Hid (Bok w6 n0 p L' 0) := Lib.hid hI0.b
                have HGE : Hid (Gr w w6) := Lib.hid hI0.gr
                clear hI hI0 hG
                simp only [putN, List.drop_succ_cons, List.drop_zero, List.getElem?_cons_succ, List.getElem?_cons_zero, List.getD_cons_succ, List.getD_cons_zero]
                go_wp2
                refine ⟨⟨L', Lib.hid ⟨HBE.out, HGE.out, ?_, ?_⟩⟩, ?_⟩
                · obtain ⟨m, hm⟩ := HST.out
                  refine ⟨m + 1, ?_⟩
                  show (stO d m).bind _ = _
                  rw [hm]
                  show stepO d (journal L).size L = _
                  rw [← HA.out, stepO_ok (by rw [← HRR.out]; exact HIX.out) (by rw [← HRR.out]; exact HP4.out) HAT.out (by rw [← HRR.out, ← HX.out]; exact HNE.out) HAD.out, HLL.out, addL_yes HAD.out, journal_snoc, ByteArray.size_append, HNE.out, HX.out, ext_len (by have := HK.out; have := HRS.out; have := HRN.out; omega), HA.out, Nat.add_assoc]
                · rw [HLL.out, addL_yes HAD.out, journal_snoc, ByteArray.size_append, HNE.out, HX.out, ext_len (by have := HK.out; have := HRS.out; have := HRN.out; omega), ← HA.out]
                  have := HRN.out; have := HK.out; have := HRS.out; have := HAN.out; have := HDN.out
                  omega
                · rw [mesL_at HBE.out, mesL_at HO.out.b, HLL.out, addL_yes HAD.out, List.length_append, List.length_singleton]
                  have := HOK.out.1
                  omega
            · have HAD := Lib.hid hadd
              obtain ⟨C, hC⟩ : ∃ C, C = addC L p1 n1 := ⟨_, rfl⟩
              have HEV : Hid (errV (addC L p1 n1) = .iface 37 (.int .i64 C)) := Lib.hid (by rw [hC]; exact errV_ne hadd)
              clear hadd hC
              go_upto_region 8 with (first
                | (refine wpList_dropB (by rfl) (.tmp 12) (.tmp 17) (by rfl) (by rfl) (by rfl) HD.out (k := A) HAN.out ?_; intro b' hb'; rw [← HRR.out] at hb'; have HR0 := Lib.hid hb'; clear hb')
                | (go_at_call 30; refine (idxByte_any (HR0.out.gr HGE.out)).mono ?_; rintro e w2 ⟨rfl, rfl⟩; rw [HIX.out])
                | (refine wpList_preB (by rfl) (.tmp 23) (.tmp 24) (by rfl) (by rfl) (by rfl) HR0.out (k := k) HKR.out ?_; intro hp'; have HPR := Lib.hid hp'; clear hp')
                | (refine wpList_convB (by rfl) (.tmp 25) (by rfl) (by rfl) (HPR.out.b.gr HGE.out) ?_)
                | (go_at_call 31; refine (split_any (R.extract 0 k) HLS.out _ (HEN.out.gr HGE.out)).mono ?_; rintro e w3 ⟨g, rfl, hp3, hg3⟩; rw [HP4.out] at hp3; rw [HP4.out, show ([p0, p1, p2, p3] : List ByteArray).length = 4 from rfl]; have k2 : w3.cell? ⟨g, 2, none⟩ = some (.string p2) := hp3.at_ (k := 2) (show 2 < 4 by decide); have HP3 := Lib.hid hp3; have HBE3 := Lib.hid (HBE.out.gr hg3); have HGE3 := Lib.hid (HGE.out.trans hg3); clear hp3 hg3)
                | (go_at_call 32; refine (atoi_g_ok p2 HP2.out _ (HEN.out.gr HGE3.out) HAT.out).mono ?_; rintro e w5 ⟨rfl, hg5⟩; have HB5 := Lib.hid (HBE3.out.gr hg5); have HG5 := Lib.hid (HGE3.out.trans hg5); have HP5 := Lib.hid (HP3.out.gr hg5); clear hg5))
              obtain ⟨rn, hrn⟩ : ∃ x, x = n - A := ⟨_, rfl⟩
              obtain ⟨rc, hrc⟩ : ∃ x, x = c - A := ⟨_, rfl⟩
              have HR := HR0
              have HRN := Lib.hid hrn
              rw [← hrn] at HK HR ⊢
              rw [← hrc] at HR ⊢
              clear hrn hrc HR0 HBE HGE k2
              refine wp_region_w (n := 27) (fun G W' => IOp w n0 p g L L' [p0, p1, p2, p3] (G 25) W') [.nilIface, .bool false, .bool false, .pointer (some ⟨p, 0, none⟩), .pointer (some ⟨p, 0, none⟩), .pointer (some ⟨p, 1, none⟩), .int .i64 (L.length : Int), .slice (some ⟨g, 0, none⟩) 4 4, .pointer (some ⟨g, 0 + 1, none⟩), .string p1, .int .i64 n1, .string (jline (L.length : Int) (p1, n1)), .slice b' rn rc, .int .i64 (k : Int), .int .i64 ((k + 1 : Nat) : Int), .slice b' (k + 1) rc, .string X, .bool false, .bool false, .bool false, .pointer (some ⟨p, 0, none⟩), .slice (some ⟨g, 0, none⟩) 4 4, .pointer (some ⟨g, 0 + 1, none⟩), .string p1, .int .i64 n1, .iface 37 (.int .i64 C), .bool true] [38, 39, 40, 41, 42, 43, 44, 45, 46, 47, 48, 49, 50, 51, 52, 53, 54, 55, 56, 57, 58, 59, 60, 61, 62, 63, 64] ?_ (by kernel_rfl) (by kernel_rfl) (by kernel_rfl) ?_ ?_
              · exact ⟨HB5.out.gr ((Gr.refl _).drew), HP5.out.gr ((Gr.refl _).drew), HG5.out.trans ((Gr.refl _).drew)⟩
              · intro G i' o' ac w1' hi' ho hA hI
                match i', hi' with
                | 0, _ =>
                  obtain rfl := Option.some.inj ho
                  exact w_val (w_plain rfl) (s_move rfl (show ac.eval (.tmp 9) = .nilIface from hA.other 9 (by decide))) rfl hI
                | 1, _ =>
                  obtain rfl := Option.some.inj ho
                  exact w_val (w_plain rfl) (s_neNil0 rfl (hA.dep 0 (by kernel_rfl) (by decide))) rfl hI
                | 2, _ =>
                  obtain rfl := Option.some.inj ho
                  exact w_val (w_plain rfl) (s_move rfl (hA.dep 1 (by kernel_rfl) (by decide))) rfl hI
                | 3, _ =>
                  obtain rfl := Option.some.inj ho
                  exact w_val (w_yes rfl (hA.dep 2 (by kernel_rfl) (by decide))) (s_move rfl (show ac.eval (.tmp 4) = .pointer (some ⟨p, 0, none⟩) from hA.other 4 (by decide))) rfl hI
                | 4, _ =>
                  obtain rfl := Option.some.inj ho
                  exact w_val (w_yes rfl (hA.dep 2 (by kernel_rfl) (by decide))) (s_nil rfl (hA.dep 3 (by kernel_rfl) (by decide))) rfl hI
                | 5, _ =>
                  obtain rfl := Option.some.inj ho
                  exact w_val (w_yes rfl (hA.dep 2 (by kernel_rfl) (by decide))) (s_fb1 rfl (hA.dep 4 (by kernel_rfl) (by decide))) rfl hI
                | 6, _ =>
                  obtain rfl := Option.some.inj ho
                  have hno : G 25 = false := by
                    cases e : G 25 with
                    | false => rfl
                    | true =>
                      have a1 := hA.closed 25 19 e (by kernel_rfl) (by decide)
                      have a2 := hA.closed 19 18 a1 (by kernel_rfl) (by decide)
                      have a3 := hA.closed 18 17 a2 (by kernel_rfl) (by decide)
                      have a4 := hA.closed 17 11 a3 (by kernel_rfl) (by decide)
                      have a5 := hA.closed 11 6 a4 (by kernel_rfl) (by decide)
                      have a6 := hA.self
                      rw [a6] at a5
                      cases a5
                  have hI0 : IOp w n0 p g L L' [p0, p1, p2, p3] (G 25) w1' := hI
                  rw [hno] at hI0
                  obtain ⟨mv9, dv9, hb9⟩ := hI0.b
                  exact w_val (w_yes rfl (hA.dep 2 (by kernel_rfl) (by decide))) (s_loadN rfl (hA.dep 5 (by kernel_rfl) (by decide)) hb9.c1) rfl hI
                | 7, _ =>
                  obtain rfl := Option.some.inj ho
                  exact w_val (w_yes rfl (hA.dep 2 (by kernel_rfl) (by decide))) (s_move rfl (show ac.eval (.tmp 7) = .slice (some ⟨g, 0, none⟩) 4 4 from hA.other 7 (by decide))) rfl hI
                | 8, _ =>
                  obtain rfl := Option.some.inj ho
                  exact w_val (w_yes rfl (hA.dep 2 (by kernel_rfl) (by decide))) (s_idxS rfl (hA.dep 7 (by kernel_rfl) (by decide)) rfl (show 1 < 4 by decide)) rfl hI
                | 9, _ =>
                  obtain rfl := Option.some.inj ho
                  exact w_val (w_yes rfl (hA.dep 2 (by kernel_rfl) (by decide))) (s_loadT rfl (hA.dep 8 (by kernel_rfl) (by decide)) (hI.p.at_ (k := 1) (show 1 < 4 by decide))) rfl hI
                | 10, _ =>
                  obtain rfl := Option.some.inj ho
                  exact w_val (w_yes rfl (hA.dep 2 (by kernel_rfl) (by decide))) (s_move rfl (show ac.eval (.tmp 8) = .int .i64 n1 from hA.other 8 (by decide))) rfl hI
                | 11, _ =>
                  obtain rfl := Option.some.inj ho
                  refine w_call (w_yes rfl (hA.dep 2 (by kernel_rfl) (by decide))) (s_fn3 en_line rfl rfl (hA.dep 6 (by kernel_rfl) (by decide)) (hA.dep 9 (by kernel_rfl) (by decide)) (hA.dep 10 (by kernel_rfl) (by decide))) ?_
                  refine (line_any _ n1 p1 HBL.out HBN.out HPS.out w1' (HTB.out.gr hI.gr)).mono ?_
                  rintro e w2 ⟨rfl, h2⟩
                  exact ⟨rfl, hI.on h2⟩
                | 12, _ =>
                  obtain rfl := Option.some.inj ho
                  exact w_val (w_yes rfl (hA.dep 2 (by kernel_rfl) (by decide))) (s_move rfl (show ac.eval (.tmp 5) = .slice b' rn rc from hA.other 5 (by decide))) rfl hI
                | 13, _ =>
                  obtain rfl := Option.some.inj ho
                  exact w_val (w_yes rfl (hA.dep 2 (by kernel_rfl) (by decide))) (s_move rfl (show ac.eval (.tmp 6) = .int .i64 (k : Int) from hA.other 6 (by decide))) rfl hI
                | 14, _ =>
                  obtain rfl := Option.some.inj ho
                  exact w_val (w_yes rfl (hA.dep 2 (by kernel_rfl) (by decide))) (s_addN rfl (hA.dep 13 (by kernel_rfl) (by decide)) rfl (by omega) (by omega) (by omega)) rfl hI
                | 15, _ =>
                  obtain rfl := Option.some.inj ho
                  exact w_val (w_yes rfl (hA.dep 2 (by kernel_rfl) (by decide))) (s_preB rfl (hA.dep 12 (by kernel_rfl) (by decide)) (hA.dep 14 (by kernel_rfl) (by decide)) HK.out HR.out.cap HR.out.nil) rfl hI
                | 16, _ =>
                  obtain rfl := Option.some.inj ho
                  exact w_val (w_yes rfl (hA.dep 2 (by kernel_rfl) (by decide))) (s_conv rfl (hA.dep 15 (by kernel_rfl) (by decide)) (by rw [HX.out]; exact (HR.out.pre HK.out).b.gr hI.gr)) rfl hI
                | 17, _ =>
                  obtain rfl := Option.some.inj ho
                  exact w_val (w_yes rfl (hA.dep 2 (by kernel_rfl) (by decide))) (s_neS0 rfl (hA.dep 11 (by kernel_rfl) (by decide)) (hA.dep 16 (by kernel_rfl) (by decide)) HNE.out) rfl hI
                | 18, _ =>
                  obtain rfl := Option.some.inj ho
                  exact w_val (w_plain rfl) (s_pickT rfl (hA.dep 2 (by kernel_rfl) (by decide)) (hA.dep 17 (by kernel_rfl) (by decide))) rfl hI
                | 19, _ =>
                  obtain rfl := Option.some.inj ho
                  exact w_val (w_plain rfl) (s_move rfl (hA.dep 18 (by kernel_rfl) (by decide))) rfl hI
                | 20, _ =>
                  obtain rfl := Option.some.inj ho
                  exact w_val (w_yes rfl (hA.dep 19 (by kernel_rfl) (by decide))) (s_move rfl (show ac.eval (.tmp 4) = .pointer (some ⟨p, 0, none⟩) from hA.other 4 (by decide))) rfl hI
                | 21, _ =>
                  obtain rfl := Option.some.inj ho
                  exact w_val (w_yes rfl (hA.dep 19 (by kernel_rfl) (by decide))) (s_move rfl (show ac.eval (.tmp 7) = .slice (some ⟨g, 0, none⟩) 4 4 from hA.other 7 (by decide))) rfl hI
                | 22, _ =>
                  obtain rfl := Option.some.inj ho
                  exact w_val (w_yes rfl (hA.dep 19 (by kernel_rfl) (by decide))) (s_idxS rfl (hA.dep 21 (by kernel_rfl) (by decide)) rfl (show 1 < 4 by decide)) rfl hI
                | 23, _ =>
                  obtain rfl := Option.some.inj ho
                  exact w_val (w_yes rfl (hA.dep 19 (by kernel_rfl) (by decide))) (s_loadT rfl (hA.dep 22 (by kernel_rfl) (by decide)) (hI.p.at_ (k := 1) (show 1 < 4 by decide))) rfl hI
                | 24, _ =>
                  obtain rfl := Option.some.inj ho
                  exact w_val (w_yes rfl (hA.dep 19 (by kernel_rfl) (by decide))) (s_move rfl (show ac.eval (.tmp 8) = .int .i64 n1 from hA.other 8 (by decide))) rfl hI
                | 25, _ =>
                  obtain rfl := Option.some.inj ho
                  refine w_call (w_yes rfl (hA.dep 19 (by kernel_rfl) (by decide))) (s_fn3 en_add rfl rfl (hA.dep 20 (by kernel_rfl) (by decide)) (hA.dep 23 (by kernel_rfl) (by decide)) (hA.dep 24 (by kernel_rfl) (by decide))) ?_
                  have hI0 : IOp w n0 p g L L' [p0, p1, p2, p3] (G 25) w1' := hI
                  have hself := hA.self
                  rw [hself] at hI0
                  have hB0 : Bok w1' n0 p L 0 := hI0.b
                  refine (add_any hB0 p1 n1 HPS.out (fun u ku => HTB.out.gr (ku.gr hI0.gr HN0.out hI0.b.low))).mono ?_
                  rintro e w2 ⟨rfl, h2, h3⟩
                  exact ⟨by rw [HEV.out]; rfl, by rw [HLL.out]; exact h2, hI0.p.keep hI0.b h3, h3.gr hI0.gr HN0.out hI0.b.low⟩
                | 26, _ =>
                  obtain rfl := Option.some.inj ho
                  exact w_val (w_yes rfl (hA.dep 19 (by kernel_rfl) (by decide))) (s_neNil rfl (hA.dep 25 (by kernel_rfl) (by decide))) rfl hI
                | k' + 27, hk' => exact absurd (show k' + 27 < 27 from hk') (by omega)
              · intro G w6 hG hI
                have hI0 : IOp w n0 p g L L' [p0, p1, p2, p3] (G 25) w6 := hI
                have e25 := hG 25 (by omega)
                rw [e25] at hI0
                clear e25
                have HBE : Hid (Bok w6 n0 p L 0) := Lib.hid (by have := hI0.b; rw [HLL.out] at this; rw [addL_no HAD.out] at this; exact this)
                have HGE : Hid (Gr w w6) := Lib.hid hI0.gr
                clear hI hI0 hG
                simp only [putN, List.drop_succ_cons, List.drop_zero, List.getElem?_cons_succ, List.getElem?_cons_zero, List.getD_cons_succ, List.getD_cons_zero]
                go_wp2_with (go_at_call 10; refine (sync_any HBE.out).mono ?_; rintro e w8 ⟨rfl, h8, k8⟩; have HB8 := Lib.hid h8; have HG8 := Lib.hid (k8.gr HGE.out HN0.out HBE.out.low); obtain ⟨mv8, dv8, hb8⟩ := h8; obtain ⟨da8, dc8, rfl⟩ := hb8.shape; have d2 := hb8.c2; clear k8 hb8)
                go_quiet (fail)
                go_wp2
                exact bodyPost_ret (v := .tuple #[.pointer (some ⟨p, 0, none⟩), .int .i64 ((journal L).size : Int)]) (by simp [results, Tryz.results19, go_sem]) rfl ⟨p, L, (journal L).size, rfl, (HB8.out.gr ((Gr.refl _).drewN _)), rfl, ⟨HST.out, by rw [← HA.out]; exact stepO_add (by rw [← HRR.out]; exact HIX.out) (by rw [← HRR.out]; exact HP4.out) HAT.out HAD.out⟩, HG8.out.trans ((Gr.refl _).drewN _)⟩
          · have HNE : Hid (jline (L.length : Int) (p1, n1) ≠ X) := Lib.hid hj
            clear hj
            go_upto_region 8 with (first
              | (refine wpList_dropB (by rfl) (.tmp 12) (.tmp 17) (by rfl) (by rfl) (by rfl) HD.out (k := A) HAN.out ?_; intro b' hb'; rw [← HRR.out] at hb'; have HR0 := Lib.hid hb'; clear hb')
              | (go_at_call 30; refine (idxByte_any (HR0.out.gr HGE.out)).mono ?_; rintro e w2 ⟨rfl, rfl⟩; rw [HIX.out])
              | (refine wpList_preB (by rfl) (.tmp 23) (.tmp 24) (by rfl) (by rfl) (by rfl) HR0.out (k := k) HKR.out ?_; intro hp'; have HPR := Lib.hid hp'; clear hp')
              | (refine wpList_convB (by rfl) (.tmp 25) (by rfl) (by rfl) (HPR.out.b.gr HGE.out) ?_)
              | (go_at_call 31; refine (split_any (R.extract 0 k) HLS.out _ (HEN.out.gr HGE.out)).mono ?_; rintro e w3 ⟨g, rfl, hp3, hg3⟩; rw [HP4.out] at hp3; rw [HP4.out, show ([p0, p1, p2, p3] : List ByteArray).length = 4 from rfl]; have k2 : w3.cell? ⟨g, 2, none⟩ = some (.string p2) := hp3.at_ (k := 2) (show 2 < 4 by decide); have HP3 := Lib.hid hp3; have HBE3 := Lib.hid (HBE.out.gr hg3); have HGE3 := Lib.hid (HGE.out.trans hg3); clear hp3 hg3)
              | (go_at_call 32; refine (atoi_g_ok p2 HP2.out _ (HEN.out.gr HGE3.out) HAT.out).mono ?_; rintro e w5 ⟨rfl, hg5⟩; have HB5 := Lib.hid (HBE3.out.gr hg5); have HG5 := Lib.hid (HGE3.out.trans hg5); have HP5 := Lib.hid (HP3.out.gr hg5); clear hg5))
            obtain ⟨rn, hrn⟩ : ∃ x, x = n - A := ⟨_, rfl⟩
            obtain ⟨rc, hrc⟩ : ∃ x, x = c - A := ⟨_, rfl⟩
            have HR := HR0
            have HRN := Lib.hid hrn
            rw [← hrn] at HK HR ⊢
            rw [← hrc] at HR ⊢
            clear hrn hrc HR0 HBE HGE k2
            refine wp_region_w (n := 27) (fun G W' => IOp w n0 p g L L' [p0, p1, p2, p3] (false) W') [.nilIface, .bool false, .bool false, .pointer (some ⟨p, 0, none⟩), .pointer (some ⟨p, 0, none⟩), .pointer (some ⟨p, 1, none⟩), .int .i64 (L.length : Int), .slice (some ⟨g, 0, none⟩) 4 4, .pointer (some ⟨g, 0 + 1, none⟩), .string p1, .int .i64 n1, .string (jline (L.length : Int) (p1, n1)), .slice b' rn rc, .int .i64 (k : Int), .int .i64 ((k + 1 : Nat) : Int), .slice b' (k + 1) rc, .string X, .bool true, .bool true, .bool true, undef, undef, undef, undef, undef, undef, undef] [38, 39, 40, 41, 42, 43, 44, 45, 46, 47, 48, 49, 50, 51, 52, 53, 54, 55, 56, 57, 58, 59, 60, 61, 62, 63, 64] ?_ (by kernel_rfl) (by kernel_rfl) (by kernel_rfl) ?_ ?_
            · exact ⟨HB5.out.gr ((Gr.refl _).drew), HP5.out.gr ((Gr.refl _).drew), HG5.out.trans ((Gr.refl _).drew)⟩
            · intro G i' o' ac w1' hi' ho hA hI
              match i', hi' with
              | 0, _ =>
                obtain rfl := Option.some.inj ho
                exact w_val (w_plain rfl) (s_move rfl (show ac.eval (.tmp 9) = .nilIface from hA.other 9 (by decide))) rfl hI
              | 1, _ =>
                obtain rfl := Option.some.inj ho
                exact w_val (w_plain rfl) (s_neNil0 rfl (hA.dep 0 (by kernel_rfl) (by decide))) rfl hI
              | 2, _ =>
                obtain rfl := Option.some.inj ho
                exact w_val (w_plain rfl) (s_move rfl (hA.dep 1 (by kernel_rfl) (by decide))) rfl hI
              | 3, _ =>
                obtain rfl := Option.some.inj ho
                exact w_val (w_yes rfl (hA.dep 2 (by kernel_rfl) (by decide))) (s_move rfl (show ac.eval (.tmp 4) = .pointer (some ⟨p, 0, none⟩) from hA.other 4 (by decide))) rfl hI
              | 4, _ =>
                obtain rfl := Option.some.inj ho
                exact w_val (w_yes rfl (hA.dep 2 (by kernel_rfl) (by decide))) (s_nil rfl (hA.dep 3 (by kernel_rfl) (by decide))) rfl hI
              | 5, _ =>
                obtain rfl := Option.some.inj ho
                exact w_val (w_yes rfl (hA.dep 2 (by kernel_rfl) (by decide))) (s_fb1 rfl (hA.dep 4 (by kernel_rfl) (by decide))) rfl hI
              | 6, _ =>
                obtain rfl := Option.some.inj ho
                have hno : G 25 = false := by
                  cases e : G 25 with
                  | false => rfl
                  | true =>
                    have a1 := hA.closed 25 19 e (by kernel_rfl) (by decide)
                    have a2 := hA.closed 19 18 a1 (by kernel_rfl) (by decide)
                    have a3 := hA.closed 18 17 a2 (by kernel_rfl) (by decide)
                    have a4 := hA.closed 17 11 a3 (by kernel_rfl) (by decide)
                    have a5 := hA.closed 11 6 a4 (by kernel_rfl) (by decide)
                    have a6 := hA.self
                    rw [a6] at a5
                    cases a5
                have hI0 : IOp w n0 p g L L' [p0, p1, p2, p3] false w1' := hI
                obtain ⟨mv9, dv9, hb9⟩ := hI0.b
                exact w_val (w_yes rfl (hA.dep 2 (by kernel_rfl) (by decide))) (s_loadN rfl (hA.dep 5 (by kernel_rfl) (by decide)) hb9.c1) rfl hI
              | 7, _ =>
                obtain rfl := Option.some.inj ho
                exact w_val (w_yes rfl (hA.dep 2 (by kernel_rfl) (by decide))) (s_move rfl (show ac.eval (.tmp 7) = .slice (some ⟨g, 0, none⟩) 4 4 from hA.other 7 (by decide))) rfl hI
              | 8, _ =>
                obtain rfl := Option.some.inj ho
                exact w_val (w_yes rfl (hA.dep 2 (by kernel_rfl) (by decide))) (s_idxS rfl (hA.dep 7 (by kernel_rfl) (by decide)) rfl (show 1 < 4 by decide)) rfl hI
              | 9, _ =>
                obtain rfl := Option.some.inj ho
                exact w_val (w_yes rfl (hA.dep 2 (by kernel_rfl) (by decide))) (s_loadT rfl (hA.dep 8 (by kernel_rfl) (by decide)) (hI.p.at_ (k := 1) (show 1 < 4 by decide))) rfl hI
              | 10, _ =>
                obtain rfl := Option.some.inj ho
                exact w_val (w_yes rfl (hA.dep 2 (by kernel_rfl) (by decide))) (s_move rfl (show ac.eval (.tmp 8) = .int .i64 n1 from hA.other 8 (by decide))) rfl hI
              | 11, _ =>
                obtain rfl := Option.some.inj ho
                refine w_call (w_yes rfl (hA.dep 2 (by kernel_rfl) (by decide))) (s_fn3 en_line rfl rfl (hA.dep 6 (by kernel_rfl) (by decide)) (hA.dep 9 (by kernel_rfl) (by decide)) (hA.dep 10 (by kernel_rfl) (by decide))) ?_
                refine (line_any _ n1 p1 HBL.out HBN.out HPS.out w1' (HTB.out.gr hI.gr)).mono ?_
                rintro e w2 ⟨rfl, h2⟩
                exact ⟨rfl, hI.on h2⟩
              | 12, _ =>
                obtain rfl := Option.some.inj ho
                exact w_val (w_yes rfl (hA.dep 2 (by kernel_rfl) (by decide))) (s_move rfl (show ac.eval (.tmp 5) = .slice b' rn rc from hA.other 5 (by decide))) rfl hI
              | 13, _ =>
                obtain rfl := Option.some.inj ho
                exact w_val (w_yes rfl (hA.dep 2 (by kernel_rfl) (by decide))) (s_move rfl (show ac.eval (.tmp 6) = .int .i64 (k : Int) from hA.other 6 (by decide))) rfl hI
              | 14, _ =>
                obtain rfl := Option.some.inj ho
                exact w_val (w_yes rfl (hA.dep 2 (by kernel_rfl) (by decide))) (s_addN rfl (hA.dep 13 (by kernel_rfl) (by decide)) rfl (by omega) (by omega) (by omega)) rfl hI
              | 15, _ =>
                obtain rfl := Option.some.inj ho
                exact w_val (w_yes rfl (hA.dep 2 (by kernel_rfl) (by decide))) (s_preB rfl (hA.dep 12 (by kernel_rfl) (by decide)) (hA.dep 14 (by kernel_rfl) (by decide)) HK.out HR.out.cap HR.out.nil) rfl hI
              | 16, _ =>
                obtain rfl := Option.some.inj ho
                exact w_val (w_yes rfl (hA.dep 2 (by kernel_rfl) (by decide))) (s_conv rfl (hA.dep 15 (by kernel_rfl) (by decide)) (by rw [HX.out]; exact (HR.out.pre HK.out).b.gr hI.gr)) rfl hI
              | 17, _ =>
                obtain rfl := Option.some.inj ho
                exact w_val (w_yes rfl (hA.dep 2 (by kernel_rfl) (by decide))) (s_neS rfl (hA.dep 11 (by kernel_rfl) (by decide)) (hA.dep 16 (by kernel_rfl) (by decide)) HNE.out) rfl hI
              | 18, _ =>
                obtain rfl := Option.some.inj ho
                exact w_val (w_plain rfl) (s_pickT rfl (hA.dep 2 (by kernel_rfl) (by decide)) (hA.dep 17 (by kernel_rfl) (by decide))) rfl hI
              | 19, _ =>
                obtain rfl := Option.some.inj ho
                exact w_val (w_plain rfl) (s_move rfl (hA.dep 18 (by kernel_rfl) (by decide))) rfl hI
              | 20, _ =>
                obtain rfl := Option.some.inj ho
                exact w_no rfl (hA.dep 19 (by kernel_rfl) (by decide)) rfl hI
              | 21, _ =>
                obtain rfl := Option.some.inj ho
                exact w_no rfl (hA.dep 19 (by kernel_rfl) (by decide)) rfl hI
              | 22, _ =>
                obtain rfl := Option.some.inj ho
                exact w_no rfl (hA.dep 19 (by kernel_rfl) (by decide)) rfl hI
              | 23, _ =>
                obtain rfl := Option.some.inj ho
                exact w_no rfl (hA.dep 19 (by kernel_rfl) (by decide)) rfl hI
              | 24, _ =>
                obtain rfl := Option.some.inj ho
                exact w_no rfl (hA.dep 19 (by kernel_rfl) (by decide)) rfl hI
              | 25, _ =>
                obtain rfl := Option.some.inj ho
                exact w_no rfl (hA.dep 19 (by kernel_rfl) (by decide)) rfl hI
              | 26, _ =>
                obtain rfl := Option.some.inj ho
                exact w_no rfl (hA.dep 19 (by kernel_rfl) (by decide)) rfl hI
              | k' + 27, hk' => exact absurd (show k' + 27 < 27 from hk') (by omega)
            · intro G w6 hG hI
              have hI0 : IOp w n0 p g L L' [p0, p1, p2, p3] false w6 := hI
              have HBE : Hid (Bok w6 n0 p L 0) := Lib.hid hI0.b
              have HGE : Hid (Gr w w6) := Lib.hid hI0.gr
              clear hI hI0 hG
              simp only [putN, List.drop_succ_cons, List.drop_zero, List.getElem?_cons_succ, List.getElem?_cons_zero, List.getD_cons_succ, List.getD_cons_zero]
              go_wp2_with (go_at_call 10; refine (sync_any HBE.out).mono ?_; rintro e w8 ⟨rfl, h8, k8⟩; have HB8 := Lib.hid h8; have HG8 := Lib.hid (k8.gr HGE.out HN0.out HBE.out.low); obtain ⟨mv8, dv8, hb8⟩ := h8; obtain ⟨da8, dc8, rfl⟩ := hb8.shape; have d2 := hb8.c2; clear k8 hb8)
              go_quiet (fail)
              go_wp2
              exact bodyPost_ret (v := .tuple #[.pointer (some ⟨p, 0, none⟩), .int .i64 ((journal L).size : Int)]) (by simp [results, Tryz.results19, go_sem]) rfl ⟨p, L, (journal L).size, rfl, (HB8.out.gr ((Gr.refl _).drewN _)), rfl, ⟨HST.out, by rw [← HA.out]; exact stepO_line (by rw [← HRR.out]; exact HIX.out) (by rw [← HRR.out]; exact HP4.out) HAT.out (by rw [← HRR.out, ← HX.out]; exact HNE.out)⟩, HG8.out.trans ((Gr.refl _).drewN _)⟩
        · have hat : ∀ v, Lib.atoiAll p2.data.toList ≠ .ok v := fun v e => hno ⟨v, e⟩
          have HAT := Lib.hid hat
          obtain ⟨L', hL'⟩ : ∃ L' : List Ent, L' = L := ⟨_, rfl⟩
          clear hat hno hL'
          go_upto_region 8 with (first
            | (refine wpList_dropB (by rfl) (.tmp 12) (.tmp 17) (by rfl) (by rfl) (by rfl) HD.out (k := A) HAN.out ?_; intro b' hb'; rw [← HRR.out] at hb'; have HR0 := Lib.hid hb'; clear hb')
            | (go_at_call 30; refine (idxByte_any (HR0.out.gr HGE.out)).mono ?_; rintro e w2 ⟨rfl, rfl⟩; rw [HIX.out])
            | (refine wpList_preB (by rfl) (.tmp 23) (.tmp 24) (by rfl) (by rfl) (by rfl) HR0.out (k := k) HKR.out ?_; intro hp'; have HPR := Lib.hid hp'; clear hp')
            | (refine wpList_convB (by rfl) (.tmp 25) (by rfl) (by rfl) (HPR.out.b.gr HGE.out) ?_)
            | (go_at_call 31; refine (split_any (R.extract 0 k) HLS.out _ (HEN.out.gr HGE.out)).mono ?_; rintro e w3 ⟨g, rfl, hp3, hg3⟩; rw [HP4.out] at hp3; rw [HP4.out, show ([p0, p1, p2, p3] : List ByteArray).length = 4 from rfl]; have k2 : w3.cell? ⟨g, 2, none⟩ = some (.string p2) := hp3.at_ (k := 2) (show 2 < 4 by decide); have HP3 := Lib.hid hp3; have HBE3 := Lib.hid (HBE.out.gr hg3); have HGE3 := Lib.hid (HGE.out.trans hg3); clear hp3 hg3)
            | (go_at_call 32; refine (atoi_g_no p2 HP2.out _ (HEN.out.gr HGE3.out) HAT.out).mono ?_; rintro e w5 ⟨⟨z, te, pe, rfl⟩, hg5⟩; have HB5 := Lib.hid (HBE3.out.gr hg5); have HG5 := Lib.hid (HGE3.out.trans hg5); have HP5 := Lib.hid (HP3.out.gr hg5); clear hg5))
          obtain ⟨rn, hrn⟩ : ∃ x, x = n - A := ⟨_, rfl⟩
          obtain ⟨rc, hrc⟩ : ∃ x, x = c - A := ⟨_, rfl⟩
          have HR := HR0
          have HRN := Lib.hid hrn
          rw [← hrn] at HK HR ⊢
          rw [← hrc] at HR ⊢
          clear hrn hrc HR0 HBE HGE k2
          refine wp_region_w (n := 27) (fun G W' => IOp w n0 p g L L' [p0, p1, p2, p3] (false) W') [.iface te pe, .bool true, .bool true, undef, undef, undef, undef, undef, undef, undef, undef, undef, undef, undef, undef, undef, undef, undef, .bool true, .bool true, undef, undef, undef, undef, undef, undef, undef] [38, 39, 40, 41, 42, 43, 44, 45, 46, 47, 48, 49, 50, 51, 52, 53, 54, 55, 56, 57, 58, 59, 60, 61, 62, 63, 64] ?_ (by kernel_rfl) (by kernel_rfl) (by kernel_rfl) ?_ ?_
          · exact ⟨HB5.out.gr ((Gr.refl _).drew), HP5.out.gr ((Gr.refl _).drew), HG5.out.trans ((Gr.refl _).drew)⟩
          · intro G i' o' ac w1' hi' ho hA hI
            match i', hi' with
            | 0, _ =>
              obtain rfl := Option.some.inj ho
              exact w_val (w_plain rfl) (s_move rfl (show ac.eval (.tmp 9) = .iface te pe from hA.other 9 (by decide))) rfl hI
            | 1, _ =>
              obtain rfl := Option.some.inj ho
              exact w_val (w_plain rfl) (s_neNil rfl (hA.dep 0 (by kernel_rfl) (by decide))) rfl hI
            | 2, _ =>
              obtain rfl := Option.some.inj ho
              exact w_val (w_plain rfl) (s_move rfl (hA.dep 1 (by kernel_rfl) (by decide))) rfl hI
            | 3, _ =>
              obtain rfl := Option.some.inj ho
              exact w_no rfl (hA.dep 2 (by kernel_rfl) (by decide)) rfl hI
            | 4, _ =>
              obtain rfl := Option.some.inj ho
              exact w_no rfl (hA.dep 2 (by kernel_rfl) (by decide)) rfl hI
            | 5, _ =>
              obtain rfl := Option.some.inj ho
              exact w_no rfl (hA.dep 2 (by kernel_rfl) (by decide)) rfl hI
            | 6, _ =>
              obtain rfl := Option.some.inj ho
              exact w_no rfl (hA.dep 2 (by kernel_rfl) (by decide)) rfl hI
            | 7, _ =>
              obtain rfl := Option.some.inj ho
              exact w_no rfl (hA.dep 2 (by kernel_rfl) (by decide)) rfl hI
            | 8, _ =>
              obtain rfl := Option.some.inj ho
              exact w_no rfl (hA.dep 2 (by kernel_rfl) (by decide)) rfl hI
            | 9, _ =>
              obtain rfl := Option.some.inj ho
              exact w_no rfl (hA.dep 2 (by kernel_rfl) (by decide)) rfl hI
            | 10, _ =>
              obtain rfl := Option.some.inj ho
              exact w_no rfl (hA.dep 2 (by kernel_rfl) (by decide)) rfl hI
            | 11, _ =>
              obtain rfl := Option.some.inj ho
              exact w_no rfl (hA.dep 2 (by kernel_rfl) (by decide)) rfl hI
            | 12, _ =>
              obtain rfl := Option.some.inj ho
              exact w_no rfl (hA.dep 2 (by kernel_rfl) (by decide)) rfl hI
            | 13, _ =>
              obtain rfl := Option.some.inj ho
              exact w_no rfl (hA.dep 2 (by kernel_rfl) (by decide)) rfl hI
            | 14, _ =>
              obtain rfl := Option.some.inj ho
              exact w_no rfl (hA.dep 2 (by kernel_rfl) (by decide)) rfl hI
            | 15, _ =>
              obtain rfl := Option.some.inj ho
              exact w_no rfl (hA.dep 2 (by kernel_rfl) (by decide)) rfl hI
            | 16, _ =>
              obtain rfl := Option.some.inj ho
              exact w_no rfl (hA.dep 2 (by kernel_rfl) (by decide)) rfl hI
            | 17, _ =>
              obtain rfl := Option.some.inj ho
              exact w_no rfl (hA.dep 2 (by kernel_rfl) (by decide)) rfl hI
            | 18, _ =>
              obtain rfl := Option.some.inj ho
              exact w_val (w_plain rfl) (s_pickTT rfl (hA.dep 2 (by kernel_rfl) (by decide))) rfl hI
            | 19, _ =>
              obtain rfl := Option.some.inj ho
              exact w_val (w_plain rfl) (s_move rfl (hA.dep 18 (by kernel_rfl) (by decide))) rfl hI
            | 20, _ =>
              obtain rfl := Option.some.inj ho
              exact w_no rfl (hA.dep 19 (by kernel_rfl) (by decide)) rfl hI
            | 21, _ =>
              obtain rfl := Option.some.inj ho
              exact w_no rfl (hA.dep 19 (by kernel_rfl) (by decide)) rfl hI
            | 22, _ =>
              obtain rfl := Option.some.inj ho
              exact w_no rfl (hA.dep 19 (by kernel_rfl) (by decide)) rfl hI
            | 23, _ =>
              obtain rfl := Option.some.inj ho
              exact w_no rfl (hA.dep 19 (by kernel_rfl) (by decide)) rfl hI
            | 24, _ =>
              obtain rfl := Option.some.inj ho
              exact w_no rfl (hA.dep 19 (by kernel_rfl) (by decide)) rfl hI
            | 25, _ =>
              obtain rfl := Option.some.inj ho
              exact w_no rfl (hA.dep 19 (by kernel_rfl) (by decide)) rfl hI
            | 26, _ =>
              obtain rfl := Option.some.inj ho
              exact w_no rfl (hA.dep 19 (by kernel_rfl) (by decide)) rfl hI
            | k' + 27, hk' => exact absurd (show k' + 27 < 27 from hk') (by omega)
          · intro G w6 hG hI
            have hI0 : IOp w n0 p g L L' [p0, p1, p2, p3] false w6 := hI
            have HBE : Hid (Bok w6 n0 p L 0) := Lib.hid hI0.b
            have HGE : Hid (Gr w w6) := Lib.hid hI0.gr
            clear hI hI0 hG
            simp only [putN, List.drop_succ_cons, List.drop_zero, List.getElem?_cons_succ, List.getElem?_cons_zero, List.getD_cons_succ, List.getD_cons_zero]
            go_wp2_with (go_at_call 10; refine (sync_any HBE.out).mono ?_; rintro e w8 ⟨rfl, h8, k8⟩; have HB8 := Lib.hid h8; have HG8 := Lib.hid (k8.gr HGE.out HN0.out HBE.out.low); obtain ⟨mv8, dv8, hb8⟩ := h8; obtain ⟨da8, dc8, rfl⟩ := hb8.shape; have d2 := hb8.c2; clear k8 hb8)
            go_quiet (fail)
            go_wp2
            exact bodyPost_ret (v := .tuple #[.pointer (some ⟨p, 0, none⟩), .int .i64 ((journal L).size : Int)]) (by simp [results, Tryz.results19, go_sem]) rfl ⟨p, L, (journal L).size, rfl, (HB8.out.gr ((Gr.refl _).drewN _)), rfl, ⟨HST.out, by rw [← HA.out]; exact stepO_atoi (by rw [← HRR.out]; exact HIX.out) (by rw [← HRR.out]; exact HP4.out) HAT.out⟩, HG8.out.trans ((Gr.refl _).drewN _)⟩
      · obtain ⟨q, hq⟩ : ∃ q, q = (pcs kSp (R.extract 0 k)).length := ⟨_, rfl⟩
        have HQ := Lib.hid hq.symm
        have HQ4 := Lib.hid h4
        rw [← hq] at h4
        have q4 : ¬ (q : Int) = 4 := by omega
        have q5 : (0 : Int) ≤ (q : Int) := by omega
        clear hq h4
        go_wp2_with (first
          | (refine wpList_dropB (by rfl) (.tmp 12) (.tmp 17) (by rfl) (by rfl) (by rfl) HD.out (k := A) HAN.out ?_; intro b' hb'; rw [← HRR.out] at hb'; have HR0 := Lib.hid hb'; clear hb')
          | (go_at_call 30; refine (idxByte_any (HR0.out.gr HGE.out)).mono ?_; rintro e w2 ⟨rfl, rfl⟩; rw [HIX.out])
          | (refine wpList_preB (by rfl) (.tmp 23) (.tmp 24) (by rfl) (by rfl) (by rfl) HR0.out (k := k) HKR.out ?_; intro hp'; have HPR := Lib.hid hp'; clear hp')
          | (refine wpList_convB (by rfl) (.tmp 25) (by rfl) (by rfl) (HPR.out.b.gr HGE.out) ?_)
          | (go_at_call 31; refine (split_any (R.extract 0 k) HLS.out _ (HEN.out.gr HGE.out)).mono ?_; rintro e w3 ⟨g, rfl, hp3, hg3⟩; rw [HQ.out]; have HBE3 := Lib.hid (HBE.out.gr hg3); have HGE3 := Lib.hid (HGE.out.trans hg3); clear hp3 hg3 HBE HGE; have HBE := HBE3; have HGE := HGE3; clear HBE3 HGE3)
          | (go_at_call 10; refine (sync_any HBE.out).mono ?_; rintro e w8 ⟨rfl, h8, k8⟩; have HB8 := Lib.hid h8; have HG8 := Lib.hid (k8.gr HGE.out HN0.out HBE.out.low); obtain ⟨mv8, dv8, hb8⟩ := h8; obtain ⟨da8, dc8, rfl⟩ := hb8.shape; have d2 := hb8.c2; clear k8 hb8))
        go_quiet (fail)
        go_wp2
        exact bodyPost_ret (v := .tuple #[.pointer (some ⟨p, 0, none⟩), .int .i64 ((journal L).size : Int)]) (by simp [results, Tryz.results19, go_sem]) rfl ⟨p, L, (journal L).size, rfl, (HB8.out.gr ((Gr.refl _).drewN _)), rfl, ⟨HST.out, by rw [← HA.out]; exact stepO_len (by rw [← HRR.out]; exact HIX.out) (by rw [← HRR.out]; exact HQ4.out)⟩, HG8.out.trans ((Gr.refl _).drewN _)⟩
end Go.Proofs.YticifnegoacopaaGreatDoor

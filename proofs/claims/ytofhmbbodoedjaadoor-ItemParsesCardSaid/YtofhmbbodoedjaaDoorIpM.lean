/-
  The reference's ItemParse, walked.
-/
import Derived.Test.YtofhmbbodoedjaaDoorIpN
import Derived.BigRegion
namespace Go.Proofs.YtofhmbbodoedjaaDoor
open Go Go.RowKit Go.Shelf

theorem wpList_app {P : Program} {ops : Array Oper} {rest : List Oper} {o : Oper} {a : Act} {Q : Exit → Act → World → Prop} {w w' : World} {v v2 v' : Value} (hg : o.guard = none) (s x : Operand) (t : TypeId) (hop : o.op = Op.call { callee := Callee.builtin Builtin.append, args := #[s, x], argTypes := #[t, t] })
    (hs : a.eval s = v) (hx : a.eval x = v2) (hr : (Builtin.append_ #[t, t] o.type #[v, v2]).run P w = .ok v' w') (hK : wpList P ops Q rest (a.put o.dst v') w') : wpList P ops Q (o :: rest) a w := by
  refine wpList_plain hg fun _ hK' => ?_
  unfold Oper.wp
  simp [execOp, hop, resolve, invoke, builtin, hs, hx, hr, Result.andThen]
  exact hK' _ _ hK
/-- Between two lines. -/
structure RI (t : ByteArray) (w2 : World) (k P : Nat) (out : List Itm) (v : Value) (wr : World) : Prop where
  go : ipGo ((pcs kLine t).drop k) out (P : Int) = ipAll t
  sum : (((pcs kLine t).drop k).map fun x => x.size + 1).sum + P = t.size + 1
  row : IRow wr v out
  own : ∀ g, v.ownBlock = some g → w2.heap.size ≤ g
  few : out.length ≤ 100
  gr : Gr w2 wr
/-- Between two words. -/
structure RJ (x : ByteArray) (w3 : World) (i : Nat) (ok : Bool) (wq : World) : Prop where
  gr : Gr w3 wq
  yes : ok = true → ∀ j, j < i → ∃ v, numR ((pcs kBlank x).getD j ⟨#[]⟩) = some v ∧ wq.cell? ⟨w3.heap.size, j, none⟩ = some (.int .i64 v)
  no : ok = false → lineR x = none
  cells : ∀ j, j < 5 → (∃ v, wq.cell? ⟨w3.heap.size, j, none⟩ = some (.int .i64 v)) ∧ wq.frozen? ⟨w3.heap.size, j, none⟩ = false
theorem line_not5 {x : ByteArray} (h : (pcs kBlank x).length ≠ 5) : lineR x = none := lineN_len (by rw [List.length_map]; exact h)
theorem line_bad {x : ByteArray} {i : Nat} (hi : i < (pcs kBlank x).length) (h : numR ((pcs kBlank x).getD i ⟨#[]⟩) = none) : lineR x = none := by
  refine lineN_bad (List.mem_map.2 ⟨_, List.getElem_mem hi, ?_⟩)
  rw [← h]
  simp [List.getD_eq_getElem?_getD, List.getElem?_eq_getElem hi]
theorem line_five {x : ByteArray} {a b c d e : Int} (h : (pcs kBlank x).length = 5) (h0 : numR ((pcs kBlank x).getD 0 ⟨#[]⟩) = some a) (h1 : numR ((pcs kBlank x).getD 1 ⟨#[]⟩) = some b) (h2 : numR ((pcs kBlank x).getD 2 ⟨#[]⟩) = some c) (h3 : numR ((pcs kBlank x).getD 3 ⟨#[]⟩) = some d) (h4 : numR ((pcs kBlank x).getD 4 ⟨#[]⟩) = some e) : lineR x = some ⟨a, b, c, d, e⟩ := by
  unfold lineR
  match pcs kBlank x, h, h0, h1, h2, h3, h4 with
  | [p0, p1, p2, p3, p4], _, h0, h1, h2, h3, h4 =>
    simp at h0 h1 h2 h3 h4
    simp [h0, h1, h2, h3, h4, lineN]
theorem RJ.next {x p : ByteArray} {w3 wq w5 : World} {i : Nat} (h : RJ x w3 i true wq) (hi : i < 5) (g : Gr wq w5) (hp : p = (pcs kBlank x).getD i ⟨#[]⟩) (h5 : 5 = (pcs kBlank x).length) : RJ x w3 (i + 1) (numR p).isSome (w5.setCell ⟨w3.heap.size, i, none⟩ (.int .i64 (numOf p))) := by
  have hg : Gr w3 (w5.setCell ⟨w3.heap.size, i, none⟩ (.int .i64 (numOf p))) := (h.gr.trans g).setCell (Nat.le_refl _) _
  have oth : ∀ j v, j ≠ i → wq.cell? ⟨w3.heap.size, j, none⟩ = some v → (w5.setCell ⟨w3.heap.size, i, none⟩ (.int .i64 (numOf p))).cell? ⟨w3.heap.size, j, none⟩ = some v := fun j v hj hv => by
    rw [World.cell?_setCell_other _ _ _ _ (by simp <;> omega)]
    exact g.cell hv
  have own : (w5.setCell ⟨w3.heap.size, i, none⟩ (.int .i64 (numOf p))).cell? ⟨w3.heap.size, i, none⟩ = some (.int .i64 (numOf p)) := by
    obtain ⟨⟨v, hv⟩, _⟩ := h.cells i hi
    exact World.cell?_setCell_same _ _ _ (g.cell hv)
  refine ⟨hg, fun hk j hj => ?_, fun hk => ?_, fun j hj => ?_⟩
  · by_cases e : j = i
    · subst e
      obtain ⟨v, hv⟩ := Option.isSome_iff_exists.1 hk
      rw [← hp]
      refine ⟨v, hv, ?_⟩
      rw [own]
      unfold numOf
      rw [hv]
      rfl
    · obtain ⟨v, h1, h2⟩ := h.yes rfl j (by omega)
      exact ⟨v, h1, oth j _ e h2⟩
  · refine line_bad (i := i) (by omega) ?_
    rw [← hp]
    exact Option.not_isSome_iff_eq_none.1 (by rw [hk]; decide)
  · obtain ⟨⟨v, hv⟩, hf⟩ := h.cells j hj
    refine ⟨?_, ?_⟩
    · by_cases e : j = i
      · subst e
        exact ⟨_, own⟩
      · exact ⟨v, oth j _ e hv⟩
    · have h1 : w5.frozen? ⟨w3.heap.size, j, none⟩ = false := by rw [g.frozen (cell_lt hv)]; exact hf
      simpa using h1
/-- How the reference answers. -/
def RipAns (t : ByteArray) (w : World) (e : Ending) (w' : World) : Prop := Gr w w' ∧ match ipAll t with
  | .ok l => ∃ v, e = .returned (.tuple #[v, faultV 0 (-1)]) ∧ Items w' v l
  | .err c p => e = .returned (.tuple #[.slice none 0 0, faultV c p])
theorem RipAns.bad {t : ByteArray} {w w' : World} {c p : Int} (h : ipAll t = .err c p) (g : Gr w w') : RipAns t w (.returned (.tuple #[.slice none 0 0, .agg #[.int .i64 c, .int .i64 p]])) w' := by
  unfold RipAns
  rw [h]
  exact ⟨g, rfl⟩
theorem RipAns.good {t : ByteArray} {w w' : World} {l : List Itm} {v : Value} (h : ipAll t = .ok l) (g : Gr w w') (hv : Items w' v l) : RipAns t w (.returned (.tuple #[v, .agg #[.int .i64 0, .int .i64 (-1)]])) w' := by
  unfold RipAns
  rw [h]
  exact ⟨g, v, rfl, hv⟩
set_option maxRecDepth 100000 in
set_option maxHeartbeats 8000000 in
theorem rparse_any (t : ByteArray) (ht : t.size ≤ 20000) (w : World) (he : Env w) (hf : FineIs w) : Calls Tryd.prog 4 #[.string t] w (RipAns t w) := by
  have HE := Lib.hid he
  have HF := Lib.hid hf
  obtain ⟨n, hn⟩ : ∃ n, n = t.size := ⟨_, rfl⟩
  have HN := Lib.hid hn
  have hlen : ∀ w ty, (Builtin.len_ #[9] ty #[.string t]).run Tryd.prog w = .ok (.int .i64 (n : Int)) w := fun w ty => by rw [HN.out]; simp [go_sem, Tryd.underlying9]
  rw [← hn] at ht
  have n1 : (n : Int) ≤ 20000 := by omega
  have HS : Hid (t.size ≤ 20001) := Lib.hid (by rw [← HN.out]; omega)
  clear he hf hn ht
  obtain ⟨w1, hw1⟩ : ∃ w1, w1 = w.alloc (.cells #[.int .i64 0, .int .i64 0] 25) := ⟨_, rfl⟩
  have HW1 := Lib.hid hw1
  have HG1 : Hid (Gr w w1) := Lib.hid (by rw [hw1]; exact (Gr.refl w).alloc _)
  have HR1 : Hid (Res2 w1 w.heap.size (.int .i64 0) (.int .i64 0)) := Lib.hid (by rw [hw1]; exact fault_res w)
  clear hw1
  obtain ⟨m, hm⟩ : ∃ m, m = (pcs kLine t).length := ⟨_, rfl⟩
  have HM := Lib.hid hm
  have HM2 : Hid (m ≤ 20001) := Lib.hid (by
    have h1 := sum_len (pcs kLine t)
    rw [pcs_sum rfl t.size t (Nat.le_refl _)] at h1
    have := HN.out
    omega)
  have m1 : (m : Int) ≤ 20001 := by have := HM2.out; omega
  clear hm
  go_enter Tryd.func4, Tryd.ntmps4
  go_wp2_with (go_at_call 9
               rw [← HW1.out]
               refine (split_g t ⟨#[10]⟩ HS.out (by decide) _ (HE.out.gr HG1.out)).mono ?_
               rintro e w2 ⟨rfl, hw2⟩
               rw [show (pcs ⟨#[10]⟩ t).length = m from HM.out.symm]
               have HW2 := Lib.hid hw2
               clear hw2)
  have HG2 : Hid (Gr w1 w2) := Lib.hid (by rw [HW2.out]; exact (Gr.refl w1).alloc _)
  have HC2 : Hid (∀ k, k < m → w2.cell? ⟨w1.heap.size, k, none⟩ = some (.string ((pcs kLine t).getD k ⟨#[]⟩))) := Lib.hid (fun k hk => by
    rw [HW2.out]
    exact split_cell w1 (pcs kLine t) _ (by rw [← HM.out]; exact hk))
  go_loopw [4, 5, 20] (fun s4 s5 s20 wr => ∃ (k P : Nat) (out : List Itm) (va : Option Addr) (vc : Nat), k ≤ m ∧ s4 = .slice va out.length vc ∧ s5 = .int .i64 (P : Int) ∧ s20 = .int .i64 (k : Int) ∧ Hid (RI t w2 k P out (.slice va out.length vc) wr)) (fun _ _ s20 _ => m - (intOf s20).toNat)
  case atStart => exact ⟨0, 0, [], none, 0, Nat.zero_le _, rfl, rfl, rfl, Lib.hid ⟨rfl, by rw [List.drop_zero, pcs_sum rfl t.size t (Nat.le_refl _)], IRow.nil _, fun g hg => by simp [Value.ownBlock] at hg, Nat.zero_le _, Gr.refl _⟩⟩
  case round =>
    obtain ⟨k, P, out, va, vc, hk, rfl, rfl, rfl, HR⟩ := hrel
    obtain ⟨wo, hwo⟩ : ∃ u, u = wr := ⟨_, rfl⟩
    subst hwo
    have HW : Hid (Gr w wo) := Lib.hid (HG1.out.trans (HG2.out.trans HR.out.gr))
    have HRES : Hid (Res2 wo w.heap.size (.int .i64 0) (.int .i64 0)) := Lib.hid (HR1.out.gr (HG2.out.trans HR.out.gr))
    have HPP : Hid ((P : Int) ≤ 20002) := Lib.hid (by have := HR.out.sum; have := HS.out; omega)
    have P0 : (0 : Int) ≤ (P : Int) := by omega
    have P1 : (P : Int) ≤ 20002 := HPP.out
    by_cases hlt : k < m
    · obtain ⟨x, hx⟩ : ∃ x, x = (pcs kLine t).getD k ⟨#[]⟩ := ⟨_, rfl⟩
      have HD : Hid ((pcs kLine t).drop k = x :: (pcs kLine t).drop (k + 1)) := Lib.hid (by
        have hl : k < (pcs kLine t).length := by rw [← HM.out]; exact hlt
        rw [List.drop_eq_getElem_cons hl, hx]
        simp [List.getD_eq_getElem?_getD, List.getElem?_eq_getElem hl])
      have c1 : wo.cell? ⟨w1.heap.size, k, none⟩ = some (.string x) := by
        rw [hx]
        exact HR.out.gr.cell (HC2.out k hlt)
      clear hx
      have i0 : (0 : Int) ≤ (k : Int) := by omega
      have i1 : (k : Int) < (m : Int) := by omega
      have i2 : (k : Int) ≤ 20001 := by omega
      obtain ⟨sx, hsx⟩ : ∃ sx, sx = x.size := ⟨_, rfl⟩
      have HSX := Lib.hid hsx
      have hlenx : ∀ w ty, (Builtin.len_ #[9] ty #[.string x]).run Tryd.prog w = .ok (.int .i64 (sx : Int)) w := fun w ty => by rw [HSX.out]; simp [go_sem, Tryd.underlying9]
      clear hsx
      have HSUM : Hid (sx + 1 + P ≤ t.size + 1) := Lib.hid (by have := HR.out.sum; rw [HD.out, List.map_cons, List.sum_cons] at this; have := HSX.out; omega)
      have sx0 : (0 : Int) ≤ (sx : Int) := by omega
      have sx1 : (sx : Int) ≤ 20001 := by have := HSUM.out; have := HS.out; omega
      by_cases hx0 : x = ⟨#[]⟩
      · subst hx0
        go_wp2
        go_roundw
        case rel =>
          refine ⟨k + 1, P + 1, out, va, vc, by omega, rfl, ?_, by go_num, Lib.hid ⟨?_, ?_, HR.out.row, HR.out.own, HR.out.few, HR.out.gr⟩⟩
          · have h1 : sx = 0 := HSX.out
            rw [h1]
            exact congrArg _ (by omega)
          · rw [← HR.out.go, HD.out, ipGo_empty rfl]
            rfl
          · have := HR.out.sum
            rw [HD.out, List.map_cons, List.sum_cons] at this
            have h1 : (⟨#[]⟩ : ByteArray).size = 0 := rfl
            omega
        case measure => simp [intOf]; omega
      · have hxs : x.size ≠ 0 := fun e => hx0 (by
          apply ByteArray.ext
          have : x.data.size = 0 := e
          exact Array.eq_empty_of_size_eq_zero this)
        have HXN := Lib.hid hxs
        have he : x.toList.isEmpty = false := by
          cases hq : x.toList.isEmpty with
          | false => rfl
          | true =>
            exfalso
            apply hxs
            have h1 := List.isEmpty_iff.1 hq
            have h2 := congrArg List.length h1
            rw [Lib.toList_data, Array.length_toList] at h2
            exact h2
        have HXS : Hid (x.size ≤ 20001) := Lib.hid (by have := HSX.out; have := HSUM.out; have := HS.out; omega)
        clear hxs
        obtain ⟨r, hr⟩ : ∃ r, r = (pcs kBlank x).length := ⟨_, rfl⟩
        have HRR := Lib.hid hr
        have r1 : (r : Int) ≤ 20002 := by
          have h1 := sum_len (pcs kBlank x)
          rw [pcs_sum rfl x.size x (Nat.le_refl _), ← hr] at h1
          have := HXS.out
          omega
        clear hr
        by_cases h5 : r = 5
        · subst h5
          go_wp2_with (go_at_call 9
                       refine (split_g x ⟨#[32]⟩ HXS.out (by decide) _ (HE.out.gr HW.out)).mono ?_
                       rintro e w3 ⟨rfl, hw3⟩
                       rw [show (pcs ⟨#[32]⟩ x).length = 5 from HRR.out.symm]
                       have HW3 := Lib.hid hw3
                       clear hw3)
          have HG3 : Hid (Gr wo w3) := Lib.hid (by rw [HW3.out]; exact (Gr.refl wo).alloc _)
          have HC3 : Hid (∀ k, k < 5 → w3.cell? ⟨wo.heap.size, k, none⟩ = some (.string ((pcs kBlank x).getD k ⟨#[]⟩))) := Lib.hid (fun k hk => by
            rw [HW3.out]
            exact split_cell wo (pcs kBlank x) _ (by rw [← HRR.out]; exact hk))
          go_loopw [10, 11] (fun s10 s11 wq => ∃ (i : Nat) (ok : Bool), i ≤ 5 ∧ s10 = .bool ok ∧ s11 = .int .i64 (i : Int) ∧ Hid (RJ x w3 i ok wq)) (fun _ s11 _ => 5 - (intOf s11).toNat)
          case atStart =>
            refine ⟨0, true, by omega, rfl, rfl, Lib.hid ⟨(Gr.refl w3).alloc _, fun _ j hj => absurd hj (by omega), (fun h => by cases h), fun j hj => ?_⟩⟩
            have hb := heap_alloc_new w3 (.cells #[.int .i64 0, .int .i64 0, .int .i64 0, .int .i64 0, .int .i64 0] 38)
            refine ⟨⟨0, ?_⟩, by unfold World.frozen?; simp only [hb]; simp⟩
            rw [cell_of_row _ _ j _ _ _ hb]
            match j, hj with
            | 0, _ => rfl
            | 1, _ => rfl
            | 2, _ => rfl
            | 3, _ => rfl
            | 4, _ => rfl
          case round =>
            obtain ⟨i, ok, hi, rfl, rfl, HJ⟩ := hrel
            cases ok with
            | false =>
              have HLN := Lib.hid (HJ.out.no rfl)
              have HGO : Hid (ipAll t = .err 3 (P : Int)) := Lib.hid (by rw [← HR.out.go, HD.out]; exact ipGo_form HXN.out HLN.out)
              obtain ⟨s0, s1, f0, f1⟩ := HRES.out.gr (HG3.out.trans HJ.out.gr)
              by_cases hi5 : (i : Int) < 5
              all_goals go_wp2
              all_goals exact bodyPost_ret (v := .tuple #[.slice none 0 0, .agg #[.int .i64 3, .int .i64 (P : Int)]]) (by simp [results, Tryd.results4, go_sem, s0, s1]) rfl (RipAns.bad HGO.out (((HW.out.trans (HG3.out.trans HJ.out.gr)).setCell (Nat.le_refl _) _).setCell (Nat.le_refl _) _))
            | true =>
              by_cases hi5 : i < 5
              · have hi6 : (i : Int) < 5 := by omega
                have hi7 : (0 : Int) ≤ (i : Int) := by omega
                obtain ⟨p, hp⟩ : ∃ p, p = (pcs kBlank x).getD i ⟨#[]⟩ := ⟨_, rfl⟩
                have HP := Lib.hid hp
                have c2 : wr.cell? ⟨wo.heap.size, i, none⟩ = some (.string p) := by
                  rw [hp]
                  exact HJ.out.gr.cell (HC3.out i hi5)
                have HPS : Hid (p.size ≤ 20001) := Lib.hid (by
                  have hl : i < (pcs kBlank x).length := by rw [← HRR.out]; exact hi5
                  have h1 := sum_le_of_mem (x := p) (l := pcs kBlank x) (by rw [hp, List.getD_eq_getElem?_getD, List.getElem?_eq_getElem hl]; exact List.getElem_mem hl)
                  rw [pcs_sum rfl x.size x (Nat.le_refl _)] at h1
                  have := HXS.out
                  omega)
                clear hp
                have HGI : Hid (Gr w wr) := Lib.hid (HW.out.trans (HG3.out.trans HJ.out.gr))
                go_wp2_with (go_at_call 10
                             refine (rnumber_any p HPS.out _ (HE.out.gr HGI.out)).mono ?_
                             rintro e w5 ⟨rfl, hg⟩
                             have HG5 := Lib.hid hg
                             obtain ⟨⟨z, hz⟩, hfz⟩ := HJ.out.cells i hi5
                             have c3 := hg.cell hz
                             have c4 : w5.frozen? ⟨w3.heap.size, i, none⟩ = false := by rw [hg.frozen (cell_lt hz)]; exact hfz
                             clear hg hz hfz)
                go_roundw
                case rel => exact ⟨i + 1, (numR p).isSome, by omega, rfl, by go_num, Lib.hid (HJ.out.next hi5 HG5.out HP.out HRR.out)⟩
                case measure => simp [intOf]; omega
              · obtain rfl : i = 5 := by omega
                obtain ⟨v0, n0, d0⟩ := HJ.out.yes rfl 0 (by omega)
                obtain ⟨v1, n1', d1⟩ := HJ.out.yes rfl 1 (by omega)
                obtain ⟨v2, n2, d2⟩ := HJ.out.yes rfl 2 (by omega)
                obtain ⟨v3, n3, d3⟩ := HJ.out.yes rfl 3 (by omega)
                obtain ⟨v4, n4, d4⟩ := HJ.out.yes rfl 4 (by omega)
                have HLN := Lib.hid (line_five HRR.out.symm n0 n1' n2 n3 n4)
                clear n0 n1' n2 n3 n4
                have HGI : Hid (Gr wo wr) := Lib.hid (HG3.out.trans HJ.out.gr)
                obtain ⟨v', w7, hr, hrow, hgr, hown, _⟩ := IRow.app (w := wr.alloc (.cells #[.int .i64 v0, .int .i64 v1, .int .i64 v2, .int .i64 v3, .int .i64 v4] 42)) (c := 1) (x := ⟨v0, v1, v2, v3, v4⟩) ((HR.out.row.gr HGI.out).gr ((Gr.refl wr).alloc _)) (item_new wr ⟨v0, v1, v2, v3, v4⟩) (by have := HR.out.few; omega)
                obtain ⟨ra, rc, hre⟩ := Row.shape hrow
                rw [show (out ++ [(⟨v0, v1, v2, v3, v4⟩ : Itm)]).length = out.length + 1 from by simp] at hre
                subst hre
                have HRUN := Lib.hid hr
                have HROW := Lib.hid hrow
                have HG7 : Hid (Gr w2 w7) := Lib.hid (gr_grown hgr ((HR.out.gr.trans HGI.out).alloc _) fun g hg => HR.out.own g hg)
                have HOWN : Hid (∀ g, (Value.slice ra (out.length + 1) rc).ownBlock = some g → w2.heap.size ≤ g) := Lib.hid fun g hg => by
                  rcases hown g hg with e | e
                  · exact HR.out.own g e
                  · have h1 := (HR.out.gr.trans HGI.out).size
                    have h2 : (wr.alloc (.cells #[.int .i64 v0, .int .i64 v1, .int .i64 v2, .int .i64 v3, .int .i64 v4] 42)).heap.size = wr.heap.size + 1 := by simp
                    omega
                have HGW7 : Hid (Gr w w7) := Lib.hid (HG1.out.trans (HG2.out.trans HG7.out))
                clear hr hrow hgr hown
                by_cases hc0 : listCode (out ++ [(⟨v0, v1, v2, v3, v4⟩ : Itm)]) = 0
                · have HC := Lib.hid hc0
                  clear hc0
                  go_wp2_with (first
                    | (go_at_call 11
                       refine (rlist_any _ HROW.out.items (HF.out.gr HGW7.out)).mono ?_
                       rintro e w8 ⟨rfl, hg⟩
                       rw [HC.out]
                       unfold faultV
                       have HG8 := Lib.hid hg
                       clear hg)
                    | (at_builtin; refine wpList_app rfl _ _ _ (by rfl) (by rfl) (by rfl) HRUN.out ?_))
                  have hl : (out ++ [(⟨v0, v1, v2, v3, v4⟩ : Itm)]).length = out.length + 1 := by simp
                  refine ⟨⟨k + 1, P + x.size + 1, out ++ [⟨v0, v1, v2, v3, v4⟩], ra, rc, by omega, by rw [hl], ?_, by go_num, Lib.hid ⟨?_, ?_, ?_, ?_, listCode_few HC.out, (HG7.out.trans HG8.out).alloc _⟩⟩, ?_⟩
                  · have := HSX.out
                    exact congrArg _ (by omega)
                  · rw [← HR.out.go, HD.out, ipGo_more HXN.out HLN.out HC.out]
                    rfl
                  · have := HR.out.sum
                    rw [HD.out, List.map_cons, List.sum_cons] at this
                    omega
                  · rw [hl]
                    exact HROW.out.gr (HG8.out.alloc _)
                  · rw [hl]
                    exact HOWN.out
                  · simp [intOf]; omega
                · obtain ⟨c, hc⟩ : ∃ c, c = listCode (out ++ [(⟨v0, v1, v2, v3, v4⟩ : Itm)]) := ⟨_, rfl⟩
                  rw [← hc] at hc0
                  have HC := Lib.hid hc
                  have HC0 := Lib.hid hc0
                  have hcb : (c == 0) = false := by simpa using hc0
                  have HGO : Hid (ipAll t = .err c (P : Int)) := Lib.hid (by
                    have h0 := HC0.out
                    rw [HC.out] at h0 ⊢
                    rw [← HR.out.go, HD.out]
                    exact ipGo_bad HXN.out HLN.out h0)
                  clear hc
                  go_wp2_with (first
                    | (go_at_call 11
                       refine (rlist_any _ HROW.out.items (HF.out.gr HGW7.out)).mono ?_
                       rintro e w8 ⟨rfl, hg⟩
                       rw [← HC.out]
                       unfold faultV
                       have HG8 := Lib.hid hg
                       clear hg)
                    | (at_builtin; refine wpList_app rfl _ _ _ (by rfl) (by rfl) (by rfl) HRUN.out ?_))
                  obtain ⟨s0, s1, f0, f1⟩ := HR1.out.gr (HG2.out.trans (HG7.out.trans HG8.out))
                  have q8 := cell_lt s0
                  simp only at q8
                  go_region
                  all_goals go_wp2
                  exact bodyPost_ret (v := .tuple #[.slice none 0 0, .agg #[.int .i64 c, .int .i64 (P : Int)]]) (by simp [results, Tryd.results4, go_sem, s0, s1, q8]) rfl (RipAns.bad HGO.out (((((HGW7.out.trans HG8.out).setCell (Nat.le_refl _) _).setCell (Nat.le_refl _) _).alloc _).drew))
        · have h5i : ¬ (r : Int) = 5 := by omega
          have h5b : ((r : Int) == 5) = false := by simpa using h5i
          have HLN : Hid (lineR x = none) := Lib.hid (line_not5 (by rw [← HRR.out]; exact h5))
          have HGO : Hid (ipAll t = .err 3 (P : Int)) := Lib.hid (by rw [← HR.out.go, HD.out]; exact ipGo_form HXN.out HLN.out)
          clear h5
          go_wp2_with (go_at_call 9
                       refine (split_g x ⟨#[32]⟩ HXS.out (by decide) _ (HE.out.gr HW.out)).mono ?_
                       rintro e w3 ⟨rfl, hw3⟩
                       rw [show (pcs ⟨#[32]⟩ x).length = r from HRR.out.symm]
                       have HW3 := Lib.hid hw3
                       clear hw3)
          have HG3 : Hid (Gr wo w3) := Lib.hid (by rw [HW3.out]; exact (Gr.refl wo).alloc _)
          obtain ⟨s0, s1, f0, f1⟩ := HRES.out.gr HG3.out
          have q3 := cell_lt s0
          simp only at q3
          refine wp_loop_rounds 1 ?_
          rw [rounds_succ]
          go_wp2
          exact bodyPost_ret (v := .tuple #[.slice none 0 0, .agg #[.int .i64 3, .int .i64 (P : Int)]]) (by simp [results, Tryd.results4, go_sem, s0, s1, q3]) rfl (RipAns.bad HGO.out ((((HW.out.trans HG3.out).setCell (Nat.le_refl _) _).setCell (Nat.le_refl _) _).alloc _))
    · have HGO : Hid (ipAll t = .ok out) := Lib.hid (by
        rw [← HR.out.go, List.drop_eq_nil_of_le (by rw [← HM.out]; omega)]
        exact ipGo_nil _ _)
      obtain ⟨s0, s1, f0, f1⟩ := HRES.out
      have h := HF.out.gr HW.out
      have f2 := h.1
      have f3 := h.2
      clear h
      obtain rfl : k = m := by omega
      go_wp2
      go_region
      all_goals go_wp2
      have hne : (Value.slice va out.length vc).ownBlock ≠ some w.heap.size := fun e => by
        have h1 := HR.out.own _ e
        have h2 := HG2.out.size
        have h3 := cell_lt HR1.out.c0
        simp only at h3
        omega
      exact bodyPost_ret (v := .tuple #[.slice va out.length vc, .agg #[.int .i64 0, .int .i64 (-1)]]) (by simp [results, Tryd.results4, go_sem, s0, s1]) rfl (RipAns.good HGO.out ((((HW.out).setCell (Nat.le_refl _) _).setCell (Nat.le_refl _) _).drew) (IRow.items ((Row.setCell (Row.setCell HR.out.row _ hne) _ hne).gr ((Gr.refl _).drew))))
theorem rparse_big (t : ByteArray) (ht : 20000 < t.size) (w : World) : Calls Tryd.prog 4 #[.string t] w fun e w' => e = .returned (.tuple #[.slice none 0 0, .agg #[.int .i64 4, .int .i64 (-1)]]) ∧ Gr w w' := by
  obtain ⟨n, hn⟩ : ∃ n, n = t.size := ⟨_, rfl⟩
  have HN := Lib.hid hn
  have hlen : ∀ w ty, (Builtin.len_ #[9] ty #[.string t]).run Tryd.prog w = .ok (.int .i64 (n : Int)) w := fun w ty => by rw [HN.out]; simp [go_sem, Tryd.underlying9]
  rw [← hn] at ht
  have n1 : (20000 : Int) < (n : Int) := by omega
  clear hn ht
  go_enter Tryd.func4, Tryd.ntmps4
  go_wp2_with (go_at_call 8; refine (bare_any _ _).mono ?_; rintro e w1 ⟨rfl, hg1⟩; obtain ⟨s0, s1, s2, s3⟩ := (fault_res w).gr hg1; have HG1 := Lib.hid (((Gr.refl w).alloc _).trans hg1); clear hg1)
  exact bodyPost_ret (v := .tuple #[.slice none 0 0, .agg #[.int .i64 4, .int .i64 (-1)]]) (by simp [results, Tryd.results4, go_sem, s0, s1]) rfl ⟨rfl, (HG1.out.setCell (Nat.le_refl _) _).setCell (Nat.le_refl _) _⟩
end Go.Proofs.YtofhmbbodoedjaaDoor

/-
  The program's list of filters, walked.
-/
import Derived.Test.YthkccohigoejgaaGreatDoorFltK
import Derived.Deep.DeepCutAuto
namespace Go.Proofs.YthkccohigoejgaaGreatDoor
open Go Go.RowKit

def wordV : Nat → ByteArray
  | 0 => ⟨#[]⟩
  | 1 => kAnd
  | _ => kOr
section
variable {p : List Tok → PR} {n wd : Nat} {L L1 r : List Tok} {acc : List Flt} {f : Flt} {c : Int}
theorem pl_err (h : p L = .err c r) : pList p (n + 1) L acc wd = .err c r := by rw [pList, h]
theorem pl_close (h : p L = .ok f L1) (h1 : isT kClose L1 = some r) : pList p (n + 1) L acc wd = .ok (.many (acc ++ [f]) (wd == 2)) r := by rw [pList, h]; simp only [h1]
theorem pl_and (h : p L = .ok f L1) (h1 : isT kClose L1 = none) (h2 : isAnd wd L1 = some r) : pList p (n + 1) L acc wd = pList p n r (acc ++ [f]) 1 := by rw [pList, h]; simp only [h1, h2]
theorem pl_or (h : p L = .ok f L1) (h1 : isT kClose L1 = none) (h2 : isAnd wd L1 = none) (h3 : isOr wd L1 = some r) : pList p (n + 1) L acc wd = pList p n r (acc ++ [f]) 2 := by rw [pList, h]; simp only [h1, h2, h3]
theorem pl_bad (h : p L = .ok f L1) (h1 : isT kClose L1 = none) (h2 : isAnd wd L1 = none) (h3 : isOr wd L1 = none) : pList p (n + 1) L acc wd = .err 3 L1 := by rw [pList, h]; simp only [h1, h2, h3]
end
/-- where the reader is -/
def atOf (w : World) (r : Nat) : Nat := (intOf ((w.cell? ⟨r, 2, none⟩).getD undef)).toNat
theorem Rd.at {w0 w : World} {r m k : Nat} {L : List Tok} {e : Int} (h : Rd w0 w r m L k e) : atOf w r = k := by
  unfold atOf
  rw [h.c2]
  simp [intOf]
/-- What take told. -/
def Took (w0 w w' : World) (r m k k' : Nat) (L : List Tok) (e : Int) (s : ByteArray) (hb : Bool) : Prop := (isT s (L.drop k) = if hb then some (L.drop k') else none) ∧ (hb = false → k' = k) ∧ Rd w0 w' r m L k' e ∧ Sav (fun q => q = r) w w'
theorem Took.yes {w0 w w' : World} {r m k k' : Nat} {L : List Tok} {e : Int} {s : ByteArray} (h : Took w0 w w' r m k k' L e s true) : isT s (L.drop k) = some (L.drop k') := h.1
theorem Took.no {w0 w w' : World} {r m k k' : Nat} {L : List Tok} {e : Int} {s : ByteArray} (h : Took w0 w w' r m k k' L e s false) : isT s (L.drop k) = none ∧ k' = k := ⟨h.1, h.2.1 rfl⟩
theorem take_took {w0 w : World} {r m k : Nat} {L : List Tok} {e : Int} (h : Rd w0 w r m L k e) (s : ByteArray) : Calls Tryz.prog 21 #[.pointer (some ⟨r, 0, none⟩), .string s] w fun e' w' => ∃ (hb : Bool) (k' : Nat), e' = .returned (.bool hb) ∧ Took w0 w w' r m k k' L e s hb := take_any h s
/-- The struct in the making, over a call that keeps all but r. -/
theorem LsAt.cells {w0 w wr w' : World} {r m t d k : Nat} {L : List Tok} {e : Int} {acc : List Flt} {s : Value} {vs : List Value} {S : Nat → Prop} (h : LsAt w0 w wr r m t d k L e acc s vs S) (hs : Sav (fun q => q = r) wr w') : w'.cell? ⟨t, 0, none⟩ = some s ∧ w'.cell? ⟨t, 1, none⟩ = some (.bool false) ∧ w'.frozen? ⟨t, 0, none⟩ = false ∧ w'.frozen? ⟨t, 1, none⟩ = false := by
  have hrt : r < t := Nat.lt_of_lt_of_le h.rd.rm h.tm
  have hb : w'.heap[t]? = some (.cells #[s, .bool false] 83 (0, 0)) := (hs.block t (Array.getElem?_eq_some_iff.1 h.ts).1 (by omega)).trans h.ts
  refine ⟨cell_of_row _ _ 0 _ _ _ hb, cell_of_row _ _ 1 _ _ _ hb, ?_, ?_⟩
  · unfold World.frozen?; simp [hb]
  · unfold World.frozen?; simp [hb]
/-- LsAt with another place, behind a take. -/
theorem LsAt.took {w0 w wr w' : World} {r m t d k k' : Nat} {L : List Tok} {e : Int} {acc : List Flt} {s : Value} {vs : List Value} {S : Nat → Prop} (h : LsAt w0 w wr r m t d k L e acc s vs S) (hs : Sav (fun q => q = r) wr w') (hrd : Rd w0 w' r m L k' e) (hk : k ≤ k') : LsAt w0 w w' r m t d k' L e acc s vs S := by
  have hrt : r < t := Nat.lt_of_lt_of_le h.rd.rm h.tm
  refine ⟨hrd, (hs.block t (Array.getElem?_eq_some_iff.1 h.ts).1 (by omega)).trans h.ts, Row.sav h.row hs fun g hg e => ?_, h.len, fun i hi => (h.kids i hi).same fun g hg => hs.block g (h.sin g hg).2 (fun e => ?_), fun g hg => ⟨(h.sin g hg).1, Nat.lt_of_lt_of_le (h.sin g hg).2 hs.size⟩, h.own, h.tm, h.tw, h.sv.then hs, ?_⟩
  · have := (h.own g hg).1; omega
  · have := (h.sin g hg).1; omega
  · have := h.few; omega
theorem newOne (w : World) (v : Value) : ∀ (j : Nat) (u : Value), ([v] : List Value)[j]? = some u → (w.alloc (.cells #[v] 29)).cell? (Addr.add ⟨w.heap.size, 0, none⟩ j) = some u
  | 0, u, h => by rw [← h]; exact cell_of_row _ _ 0 _ _ _ (heap_alloc_new w _)
  | j + 1, u, h => by simp at h
theorem ifOne {S : Nat → Prop} {d : Nat} {w : World} {v u : Value} {f : Flt} (h : FltV S d w v f) (hu : u ∈ [v]) : u.oneCell' = true := by
  simp at hu; subst hu
  obtain ⟨t, x, rfl⟩ := h.iface
  rfl
theorem ifOne2 {S : Nat → Prop} {d : Nat} {w : World} {v u : Value} {f : Flt} (h : FltV S d w v f) (hu : u ∈ [v]) : isIf u := by
  simp at hu; subst hu
  exact .inr h.iface
theorem ifRow_app {w : World} {v x : Value} {vs : List Value} (h : Row 29 1 isIf w v (vs.length + 1) (vs ++ [x])) : IfRow w v (vs ++ [x]) := by
  unfold IfRow
  rw [List.length_append]
  exact h
set_option maxRecDepth 100000 in
set_option maxHeartbeats 8000000 in
theorem list_of {w0 : World} {r m : Nat} {L : List Tok} {e : Int} {d : Nat} (hd : d < 20)
    (IH : ∀ {w : World} {k : Nat}, Rd w0 w r m L k e → Calls Tryz.prog 12 #[.pointer (some ⟨r, 0, none⟩), .int .i64 (d : Int)] w fun E w' => PAns w0 w w' r m d L e E (pOne d (L.drop k)))
    {w : World} {k : Nat} (h : Rd w0 w r m L k e) :
    Calls Tryz.prog 22 #[.pointer (some ⟨r, 0, none⟩), .int .i64 ((d : Int) + 1)] w fun E w' => PAns w0 w w' r m (d + 1) L e E (pList (pOne d) ((L.drop k).length + 1) (L.drop k) [] 0) := by
  have HR := Lib.hid h
  clear h
  have hd1 : (d : Int) < 20 := by omega
  have hd0 : (0 : Int) ≤ (d : Int) := by omega
  obtain ⟨R0, hR0⟩ : ∃ R0, R0 = pList (pOne d) ((L.drop k).length + 1) (L.drop k) [] 0 := ⟨_, rfl⟩
  rw [← hR0]
  have HQ0 := Lib.hid hR0
  clear hR0
  obtain ⟨i0, hi0, hz0, hz1, hz2⟩ := info_parts ifInfo
  go_enter Tryz.func22, Tryz.ntmps22
  go_wp2
  obtain ⟨t, ht⟩ : ∃ t, t = w.heap.size := ⟨_, rfl⟩
  obtain ⟨w1, hw1⟩ : ∃ w1, w1 = w.alloc (.cells #[.slice none 0 0, .bool false] 83) := ⟨_, rfl⟩
  have HLS : Hid (LsAt w0 w w1 r m t d k L e [] (.slice none 0 0) [] (fun _ => False)) := Lib.hid (by
    have g : Gr w w1 := by rw [hw1]; exact (Gr.refl w).alloc _
    refine ⟨HR.out.gr' g, ?_, Row.nil _ _ _ _, rfl, fun i hi => by simp at hi, fun g hg => hg.elim, fun g hg => by simp [Value.ownBlock] at hg, by rw [ht]; exact HR.out.ms, by rw [ht]; exact Nat.le_refl _, Sav.of_gr g, by simp⟩
    rw [hw1, ht]; exact heap_alloc_new w _)
  rw [← ht, ← hw1]
  clear ht hw1
  go_loopw [7] (fun s wr => ∃ (k' : Nat) (acc : List Flt) (sv : Value) (vs : List Value) (S : Nat → Prop) (wd n : Nat), ((s = .string ⟨#[]⟩ ∧ wd = 0) ∨ (s = .string ⟨#[97, 110, 100]⟩ ∧ wd = 1) ∨ (s = .string ⟨#[111, 114]⟩ ∧ wd = 2)) ∧ Hid (LsAt w0 w wr r m t d k' L e acc sv vs S) ∧ Hid ((L.drop k').length < n ∧ pList (pOne d) n (L.drop k') acc wd = R0)) (fun _ wr => L.length - atOf wr r)
  case atStart => exact ⟨k, [], _, [], _, 0, _, .inl ⟨rfl, rfl⟩, HLS, Lib.hid ⟨Nat.lt_succ_self _, HQ0.out.symm⟩⟩
  case round =>
    clear HLS HQ0 HR
    obtain ⟨k', acc, sv, vs, S, wd, n, hwd, HS, HQ⟩ := hrel
    obtain ⟨n, rfl⟩ : ∃ n', n = n' + 1 := ⟨n - 1, by have := HQ.out.1; omega⟩
    have IHk := IH HS.out.rd
    cases hP : pOne d (L.drop k') with
    | err c R =>
      rw [hP] at IHk
      have IHK := Lib.hid IHk
      clear IHk
      go_wp2_with (go_at_call 12; refine IHK.out.mono ?_; rintro e' w2 ⟨v, u, b, rfl, _, ⟨rfl, ha⟩, hb, hs⟩; have H2 := Lib.hid (And.intro ha (And.intro hb hs)); clear ha hb hs)
      exact bodyPost_ret (v := .tuple #[.nilIface, _]) (by simp [results, Tryz.results22, go_sem]; rfl) rfl (by rw [← HQ.out.2, pl_err hP]; exact ⟨_, _, b, rfl, .inl rfl, ⟨rfl, H2.out.1⟩, Nat.le_trans HS.out.sv.size H2.out.2.1, HS.out.sv.then H2.out.2.2⟩)
    | ok f R =>
      have hlen := pOne_len hP
      rw [hP] at IHk
      have IHK := Lib.hid IHk
      have HP := Lib.hid hP
      have HLEN := Lib.hid hlen
      clear IHk hP hlen
      rcases hwd with ⟨rfl, rfl⟩ | ⟨rfl, rfl⟩ | ⟨rfl, rfl⟩
      · have HFEW : Hid (vs.length ≤ 1000000) := Lib.hid (by have := HS.out.few; have := HS.out.rd.hl; rw [HS.out.len]; omega)
        have HKK : ∀ (W : World) (k2 : Nat), R = L.drop k2 → Rd w0 W r m L k2 e → k' < k2 := fun W k2 h1 h2 => by have h3 := HLEN.out; rw [h1, List.length_drop, List.length_drop] at h3; omega
        have HROW : ∀ (W : World) (_ : Sav (fun q => q = r) wr W) {x : Value}, Row 29 1 isIf (W.alloc (.cells #[x] 29)) sv vs.length vs := fun W hs x => Row.gr (Row.sav HS.out.row hs (fun g hg e => by have := (HS.out.own g hg).1; have := HS.out.rd.rm; have := HS.out.tm; omega)) ((Gr.refl W).alloc _)
        go_wp2_with (first
          | (go_at_call 21; refine (take_took H5.out.2.2.1 _).mono ?_; rintro e' w6 ⟨hb6, k6, rfl, h6⟩; have H6 := Lib.hid h6; clear h6)
          | (go_at_call 21; refine (take_took H4.out.2.2.1 _).mono ?_; rintro e' w5 ⟨hb5, k5, rfl, h5⟩; have H5 := Lib.hid h5; clear h5)
          | (go_at_call 21; refine (take_took H3.out.rd _).mono ?_; rintro e' w4 ⟨hb4, k4, rfl, h4⟩; have H4 := Lib.hid h4; clear h4 y0 y1 y2 y3; obtain ⟨y0, y1, y2, y3⟩ := H3.out.cells H4.out.2.2.2)
          | (go_at_call 12; refine IHK.out.mono ?_; rintro e' w2 ⟨v, k2, rfl, hrr, hrd, hv, hs⟩; obtain ⟨tt, xx, rfl⟩ := hv.iface; have H2 := Lib.hid (And.intro hrr (And.intro hrd (And.intro hv hs))); clear hrr hrd hv hs; obtain ⟨y0, y1, y2, y3⟩ := HS.out.cells H2.out.2.2.2)
          | (at_builtin; refine wpList_append_row rfl _ _ _ (by rfl) i0 .nilIface 16 Tryz.underlying81 hi0 hz0 hz1 hz2 rfl ?c1 (by rfl) (HROW w2 H2.out.2.2.2) ⟨w2.heap.size, 0, none⟩ 1 (by rfl) [Value.iface tt xx] (by rfl) ?c2 ?c3 ?c4 HFEW.out (by decide) ?_; (case c1 => (intro u hu; simp [Value.cells] at hu; exact .inl hu)); (case c2 => (intro j u hj; exact newOne w2 _ j u hj)); (case c3 => (intro u hu; exact ifOne H2.out.2.2.1 hu)); (case c4 => (intro u hu; exact ifOne2 H2.out.2.2.1 hu)); intro v3 w3 hrow hgr hown; obtain ⟨a3, c3, rfl⟩ := Row.shape hrow; have H3 := Lib.hid (HS.out.more H2.out.2.1 H2.out.2.2.1 H2.out.2.2.2 (HKK w2 k2 H2.out.1 H2.out.2.1) (ifRow_app hrow) hgr hown); clear y0 y1 y2 y3; obtain ⟨y0, y1, y2, y3⟩ := HS.out.mid H2.out.2.2.2 hgr; clear hrow hgr hown)
          | (go_at_call 13; refine (fail_any H6.out.2.2.1 _).mono ?_; rintro e' w9 ⟨z, bz, rfl, hz1, hz2, hz3⟩; have HZ := Lib.hid (And.intro hz1 (And.intro hz2 hz3)); clear hz1 hz2 hz3))
        · obtain rfl : hb4 = true := (by first | assumption | simp_all)
          exact bodyPost_ret (v := .tuple #[.iface 83 (.agg #[.slice a3 (vs.length + 1) c3, .bool false]), .nilIface]) (by simp [results, Tryz.results22, go_sem]) rfl (by rw [← HQ.out.2, pl_close HP.out (by rw [H2.out.1]; exact H4.out.yes)]; exact H3.out.whole (by simp) H4.out.2.2.2 H4.out.2.2.1 false)
        · (obtain rfl : hb4 = false := (by first | assumption | simp_all); obtain rfl : hb5 = true := (by first | assumption | simp_all))
          obtain ⟨h4, rfl⟩ := H4.out.no
          have hy := H5.out.yes
          have hl := isT_len hy
          have hq := HQ.out.1
          have hr := HLEN.out
          rw [H2.out.1] at hr
          have e1 := H5.out.2.2.1.at
          have e2 := HS.out.rd.at
          have hk := H5.out.2.2.1.hk
          have HN : Hid (LsAt w0 w w5 r m t d k5 L e (acc ++ [f]) (.slice a3 (vs.length + 1) c3) _ _) := Lib.hid (H3.out.took (H4.out.2.2.2.then H5.out.2.2.2) H5.out.2.2.1 (by simp only [List.length_drop] at hl hq hr; omega))
          have HM : Hid (L.length - k5 < L.length - k') := Lib.hid (by simp only [List.length_drop] at hl hq hr; omega)
          have HE : Hid ((L.drop k5).length < n ∧ pList (pOne d) n (L.drop k5) (acc ++ [f]) 1 = R0) := Lib.hid ⟨by simp only [List.length_drop] at hl hq hr ⊢; omega, by rw [← HQ.out.2, pl_and HP.out (by rw [H2.out.1]; exact h4) (by rw [H2.out.1]; exact hy)]⟩
          have HE1 := Lib.hid e1
          have HE2 := Lib.hid e2
          clear hy hl hq hr e1 e2 hk
          go_roundw
          case rel => exact ⟨k5, _, _, _, _, 1, n, .inr (.inl ⟨rfl, rfl⟩), HN, HE⟩
          case measure => rw [HE1.out, HE2.out]; exact HM.out
        · (obtain rfl : hb4 = false := (by first | assumption | simp_all); obtain rfl : hb5 = false := (by first | assumption | simp_all); obtain rfl : hb6 = true := (by first | assumption | simp_all))
          obtain ⟨h4, rfl⟩ := H4.out.no
          obtain ⟨h5, rfl⟩ := H5.out.no
          have hy := H6.out.yes
          have hl := isT_len hy
          have hq := HQ.out.1
          have hr := HLEN.out
          rw [H2.out.1] at hr
          have e1 := H6.out.2.2.1.at
          have e2 := HS.out.rd.at
          have hk := H6.out.2.2.1.hk
          have HN : Hid (LsAt w0 w w6 r m t d k6 L e (acc ++ [f]) (.slice a3 (vs.length + 1) c3) _ _) := Lib.hid (H3.out.took ((H4.out.2.2.2.then H5.out.2.2.2).then H6.out.2.2.2) H6.out.2.2.1 (by simp only [List.length_drop] at hl hq hr; omega))
          have HM : Hid (L.length - k6 < L.length - k') := Lib.hid (by simp only [List.length_drop] at hl hq hr; omega)
          have HE : Hid ((L.drop k6).length < n ∧ pList (pOne d) n (L.drop k6) (acc ++ [f]) 2 = R0) := Lib.hid ⟨by simp only [List.length_drop] at hl hq hr ⊢; omega, by rw [← HQ.out.2, pl_or HP.out (by rw [H2.out.1]; exact h4) (by rw [H2.out.1]; exact h5) (by rw [H2.out.1]; exact hy)]⟩
          have HE1 := Lib.hid e1
          have HE2 := Lib.hid e2
          clear hy hl hq hr e1 e2 hk
          go_roundw
          case rel => exact ⟨k6, _, _, _, _, 2, n, .inr (.inr ⟨rfl, rfl⟩), HN, HE⟩
          case measure => rw [HE1.out, HE2.out]; exact HM.out
        · (obtain rfl : hb4 = false := (by first | assumption | simp_all); obtain rfl : hb5 = false := (by first | assumption | simp_all); obtain rfl : hb6 = false := (by first | assumption | simp_all))
          obtain ⟨h4, rfl⟩ := H4.out.no
          obtain ⟨h5, rfl⟩ := H5.out.no
          obtain ⟨h6, rfl⟩ := H6.out.no
          exact bodyPost_ret (v := .tuple #[.nilIface, z]) (by simp [results, Tryz.results22, go_sem]) rfl (by rw [← HQ.out.2, pl_bad HP.out (by rw [H2.out.1]; exact h4) (by rw [H2.out.1]; exact h5) (by rw [H2.out.1]; exact h6), H2.out.1]; exact PAns.fail (H3.out.sv.then ((H4.out.2.2.2.then H5.out.2.2.2).then H6.out.2.2.2)) HZ.out.1 HZ.out.2.1 HZ.out.2.2)
      · have HFEW : Hid (vs.length ≤ 1000000) := Lib.hid (by have := HS.out.few; have := HS.out.rd.hl; rw [HS.out.len]; omega)
        have HKK : ∀ (W : World) (k2 : Nat), R = L.drop k2 → Rd w0 W r m L k2 e → k' < k2 := fun W k2 h1 h2 => by have h3 := HLEN.out; rw [h1, List.length_drop, List.length_drop] at h3; omega
        have HROW : ∀ (W : World) (_ : Sav (fun q => q = r) wr W) {x : Value}, Row 29 1 isIf (W.alloc (.cells #[x] 29)) sv vs.length vs := fun W hs x => Row.gr (Row.sav HS.out.row hs (fun g hg e => by have := (HS.out.own g hg).1; have := HS.out.rd.rm; have := HS.out.tm; omega)) ((Gr.refl W).alloc _)
        go_wp2_with (first
          | (go_at_call 21; refine (take_took H4.out.2.2.1 _).mono ?_; rintro e' w5 ⟨hb5, k5, rfl, h5⟩; have H5 := Lib.hid h5; clear h5)
          | (go_at_call 21; refine (take_took H3.out.rd _).mono ?_; rintro e' w4 ⟨hb4, k4, rfl, h4⟩; have H4 := Lib.hid h4; clear h4 y0 y1 y2 y3; obtain ⟨y0, y1, y2, y3⟩ := H3.out.cells H4.out.2.2.2)
          | (go_at_call 12; refine IHK.out.mono ?_; rintro e' w2 ⟨v, k2, rfl, hrr, hrd, hv, hs⟩; obtain ⟨tt, xx, rfl⟩ := hv.iface; have H2 := Lib.hid (And.intro hrr (And.intro hrd (And.intro hv hs))); clear hrr hrd hv hs; obtain ⟨y0, y1, y2, y3⟩ := HS.out.cells H2.out.2.2.2)
          | (at_builtin; refine wpList_append_row rfl _ _ _ (by rfl) i0 .nilIface 16 Tryz.underlying81 hi0 hz0 hz1 hz2 rfl ?c1 (by rfl) (HROW w2 H2.out.2.2.2) ⟨w2.heap.size, 0, none⟩ 1 (by rfl) [Value.iface tt xx] (by rfl) ?c2 ?c3 ?c4 HFEW.out (by decide) ?_; (case c1 => (intro u hu; simp [Value.cells] at hu; exact .inl hu)); (case c2 => (intro j u hj; exact newOne w2 _ j u hj)); (case c3 => (intro u hu; exact ifOne H2.out.2.2.1 hu)); (case c4 => (intro u hu; exact ifOne2 H2.out.2.2.1 hu)); intro v3 w3 hrow hgr hown; obtain ⟨a3, c3, rfl⟩ := Row.shape hrow; have H3 := Lib.hid (HS.out.more H2.out.2.1 H2.out.2.2.1 H2.out.2.2.2 (HKK w2 k2 H2.out.1 H2.out.2.1) (ifRow_app hrow) hgr hown); clear y0 y1 y2 y3; obtain ⟨y0, y1, y2, y3⟩ := HS.out.mid H2.out.2.2.2 hgr; clear hrow hgr hown)
          | (go_at_call 13; refine (fail_any H5.out.2.2.1 _).mono ?_; rintro e' w9 ⟨z, bz, rfl, hz1, hz2, hz3⟩; have HZ := Lib.hid (And.intro hz1 (And.intro hz2 hz3)); clear hz1 hz2 hz3))
        · obtain rfl : hb4 = true := (by first | assumption | simp_all)
          exact bodyPost_ret (v := .tuple #[.iface 83 (.agg #[.slice a3 (vs.length + 1) c3, .bool false]), .nilIface]) (by simp [results, Tryz.results22, go_sem]) rfl (by rw [← HQ.out.2, pl_close HP.out (by rw [H2.out.1]; exact H4.out.yes)]; exact H3.out.whole (by simp) H4.out.2.2.2 H4.out.2.2.1 false)
        · (obtain rfl : hb4 = false := (by first | assumption | simp_all); obtain rfl : hb5 = true := (by first | assumption | simp_all))
          obtain ⟨h4, rfl⟩ := H4.out.no
          have hy := H5.out.yes
          have hl := isT_len hy
          have hq := HQ.out.1
          have hr := HLEN.out
          rw [H2.out.1] at hr
          have e1 := H5.out.2.2.1.at
          have e2 := HS.out.rd.at
          have hk := H5.out.2.2.1.hk
          have HN : Hid (LsAt w0 w w5 r m t d k5 L e (acc ++ [f]) (.slice a3 (vs.length + 1) c3) _ _) := Lib.hid (H3.out.took (H4.out.2.2.2.then H5.out.2.2.2) H5.out.2.2.1 (by simp only [List.length_drop] at hl hq hr; omega))
          have HM : Hid (L.length - k5 < L.length - k') := Lib.hid (by simp only [List.length_drop] at hl hq hr; omega)
          have HE : Hid ((L.drop k5).length < n ∧ pList (pOne d) n (L.drop k5) (acc ++ [f]) 1 = R0) := Lib.hid ⟨by simp only [List.length_drop] at hl hq hr ⊢; omega, by rw [← HQ.out.2, pl_and HP.out (by rw [H2.out.1]; exact h4) (by rw [H2.out.1]; exact hy)]⟩
          have HE1 := Lib.hid e1
          have HE2 := Lib.hid e2
          clear hy hl hq hr e1 e2 hk
          go_roundw
          case rel => exact ⟨k5, _, _, _, _, 1, n, .inr (.inl ⟨rfl, rfl⟩), HN, HE⟩
          case measure => rw [HE1.out, HE2.out]; exact HM.out
        · (obtain rfl : hb4 = false := (by first | assumption | simp_all); obtain rfl : hb5 = false := (by first | assumption | simp_all))
          obtain ⟨h4, rfl⟩ := H4.out.no
          obtain ⟨h5, rfl⟩ := H5.out.no
          exact bodyPost_ret (v := .tuple #[.nilIface, z]) (by simp [results, Tryz.results22, go_sem]) rfl (by rw [← HQ.out.2, pl_bad HP.out (by rw [H2.out.1]; exact h4) (by rw [H2.out.1]; exact h5) rfl, H2.out.1]; exact PAns.fail (H3.out.sv.then ((H4.out.2.2.2.then H5.out.2.2.2))) HZ.out.1 HZ.out.2.1 HZ.out.2.2)
      · have HFEW : Hid (vs.length ≤ 1000000) := Lib.hid (by have := HS.out.few; have := HS.out.rd.hl; rw [HS.out.len]; omega)
        have HKK : ∀ (W : World) (k2 : Nat), R = L.drop k2 → Rd w0 W r m L k2 e → k' < k2 := fun W k2 h1 h2 => by have h3 := HLEN.out; rw [h1, List.length_drop, List.length_drop] at h3; omega
        have HROW : ∀ (W : World) (_ : Sav (fun q => q = r) wr W) {x : Value}, Row 29 1 isIf (W.alloc (.cells #[x] 29)) sv vs.length vs := fun W hs x => Row.gr (Row.sav HS.out.row hs (fun g hg e => by have := (HS.out.own g hg).1; have := HS.out.rd.rm; have := HS.out.tm; omega)) ((Gr.refl W).alloc _)
        go_wp2_with (first
          | (go_at_call 21; refine (take_took H4.out.2.2.1 _).mono ?_; rintro e' w5 ⟨hb5, k5, rfl, h5⟩; have H5 := Lib.hid h5; clear h5)
          | (go_at_call 21; refine (take_took H3.out.rd _).mono ?_; rintro e' w4 ⟨hb4, k4, rfl, h4⟩; have H4 := Lib.hid h4; clear h4 y0 y1 y2 y3; obtain ⟨y0, y1, y2, y3⟩ := H3.out.cells H4.out.2.2.2)
          | (go_at_call 12; refine IHK.out.mono ?_; rintro e' w2 ⟨v, k2, rfl, hrr, hrd, hv, hs⟩; obtain ⟨tt, xx, rfl⟩ := hv.iface; have H2 := Lib.hid (And.intro hrr (And.intro hrd (And.intro hv hs))); clear hrr hrd hv hs; obtain ⟨y0, y1, y2, y3⟩ := HS.out.cells H2.out.2.2.2)
          | (at_builtin; refine wpList_append_row rfl _ _ _ (by rfl) i0 .nilIface 16 Tryz.underlying81 hi0 hz0 hz1 hz2 rfl ?c1 (by rfl) (HROW w2 H2.out.2.2.2) ⟨w2.heap.size, 0, none⟩ 1 (by rfl) [Value.iface tt xx] (by rfl) ?c2 ?c3 ?c4 HFEW.out (by decide) ?_; (case c1 => (intro u hu; simp [Value.cells] at hu; exact .inl hu)); (case c2 => (intro j u hj; exact newOne w2 _ j u hj)); (case c3 => (intro u hu; exact ifOne H2.out.2.2.1 hu)); (case c4 => (intro u hu; exact ifOne2 H2.out.2.2.1 hu)); intro v3 w3 hrow hgr hown; obtain ⟨a3, c3, rfl⟩ := Row.shape hrow; have H3 := Lib.hid (HS.out.more H2.out.2.1 H2.out.2.2.1 H2.out.2.2.2 (HKK w2 k2 H2.out.1 H2.out.2.1) (ifRow_app hrow) hgr hown); clear y0 y1 y2 y3; obtain ⟨y0, y1, y2, y3⟩ := HS.out.mid H2.out.2.2.2 hgr; clear hrow hgr hown)
          | (go_at_call 13; refine (fail_any H5.out.2.2.1 _).mono ?_; rintro e' w9 ⟨z, bz, rfl, hz1, hz2, hz3⟩; have HZ := Lib.hid (And.intro hz1 (And.intro hz2 hz3)); clear hz1 hz2 hz3))
        · obtain rfl : hb4 = true := (by first | assumption | simp_all)
          exact bodyPost_ret (v := .tuple #[.iface 83 (.agg #[.slice a3 (vs.length + 1) c3, .bool true]), .nilIface]) (by simp [results, Tryz.results22, go_sem]) rfl (by rw [← HQ.out.2, pl_close HP.out (by rw [H2.out.1]; exact H4.out.yes)]; exact H3.out.whole (by simp) H4.out.2.2.2 H4.out.2.2.1 true)
        · (obtain rfl : hb4 = false := (by first | assumption | simp_all); obtain rfl : hb5 = true := (by first | assumption | simp_all))
          obtain ⟨h4, rfl⟩ := H4.out.no
          have hy := H5.out.yes
          have hl := isT_len hy
          have hq := HQ.out.1
          have hr := HLEN.out
          rw [H2.out.1] at hr
          have e1 := H5.out.2.2.1.at
          have e2 := HS.out.rd.at
          have hk := H5.out.2.2.1.hk
          have HN : Hid (LsAt w0 w w5 r m t d k5 L e (acc ++ [f]) (.slice a3 (vs.length + 1) c3) _ _) := Lib.hid (H3.out.took (H4.out.2.2.2.then H5.out.2.2.2) H5.out.2.2.1 (by simp only [List.length_drop] at hl hq hr; omega))
          have HM : Hid (L.length - k5 < L.length - k') := Lib.hid (by simp only [List.length_drop] at hl hq hr; omega)
          have HE : Hid ((L.drop k5).length < n ∧ pList (pOne d) n (L.drop k5) (acc ++ [f]) 2 = R0) := Lib.hid ⟨by simp only [List.length_drop] at hl hq hr ⊢; omega, by rw [← HQ.out.2, pl_or HP.out (by rw [H2.out.1]; exact h4) rfl (by rw [H2.out.1]; exact hy)]⟩
          have HE1 := Lib.hid e1
          have HE2 := Lib.hid e2
          clear hy hl hq hr e1 e2 hk
          go_roundw
          case rel => exact ⟨k5, _, _, _, _, 2, n, .inr (.inr ⟨rfl, rfl⟩), HN, HE⟩
          case measure => rw [HE1.out, HE2.out]; exact HM.out
        · (obtain rfl : hb4 = false := (by first | assumption | simp_all); obtain rfl : hb5 = false := (by first | assumption | simp_all))
          obtain ⟨h4, rfl⟩ := H4.out.no
          obtain ⟨h5, rfl⟩ := H5.out.no
          exact bodyPost_ret (v := .tuple #[.nilIface, z]) (by simp [results, Tryz.results22, go_sem]) rfl (by rw [← HQ.out.2, pl_bad HP.out (by rw [H2.out.1]; exact h4) rfl (by rw [H2.out.1]; exact h5), H2.out.1]; exact PAns.fail (H3.out.sv.then ((H4.out.2.2.2.then H5.out.2.2.2))) HZ.out.1 HZ.out.2.1 HZ.out.2.2)
end Go.Proofs.YthkccohigoejgaaGreatDoor

/-
  Flows that take turns by quanta, plainly. No program is named here.
-/
import Derived.Test.YtbpofdfehcbppaaDoorHasB
namespace Go.Proofs.YtbpofdfehcbppaaDoor
open Go.RowKit

structure RndP where
  room : Int
  quanta : Nat → Int
structure RndP.Ok (q : RndP) : Prop where
  room : 0 ≤ q.room ∧ q.room ≤ 1000000
  quanta : ∀ f, 1 ≤ q.quanta f ∧ q.quanta f ≤ 1000000
structure RndS where
  l : List Hel
  turn : List Nat
  begun : Bool
  credit : Nat → Int
def intL (t : List Nat) : List Int := t.map (fun (k : Nat) => (k : Int))
theorem intL_len (t : List Nat) : (intL t).length = t.length := List.length_map ..
theorem lens_tot {xs : List Hel} (h : Lens xs) : 0 ≤ sumLen xs ∧ sumLen xs ≤ 10000 * (xs.length : Int) := by
  induction xs with
  | nil => exact ⟨Int.le_refl _, by simp [sumLen]⟩
  | cons x r ih =>
    have h1 := ih (fun y hy => h y (List.mem_cons_of_mem _ hy))
    have h2 := h x (List.mem_cons_self ..)
    rw [show sumLen (x :: r) = x.len + sumLen r from sumLen_cons x r, List.length_cons]
    omega
theorem sumLen_out {l : List Hel} {x : Hel} (hx : x ∈ l) (h : (l.map Hel.n).Nodup) : sumLen (outN l x.n) = sumLen l - x.len := by
  obtain ⟨a, b, rfl⟩ := List.append_of_mem hx
  have h1 : ∀ y ∈ a, y.n ≠ x.n := fun y hy e => by
    rw [List.map_append, List.nodup_append] at h
    exact h.2.2 _ (List.mem_map_of_mem hy) _ (by simp) e
  have h2 : ∀ y ∈ b, y.n ≠ x.n := fun y hy e => by
    rw [List.map_append, List.nodup_append, List.map_cons, List.nodup_cons] at h
    exact h.2.1.1 (by rw [← e]; exact List.mem_map_of_mem hy)
  have h3 : outN (a ++ x :: b) x.n = outN a x.n ++ outN (x :: b) x.n := List.filter_append ..
  have h4 : outN (x :: b) x.n = outN b x.n := by simp [outN]
  rw [h3, h4, outN_id h1, outN_id h2, sumLen_app, sumLen_app, sumLen_cons]
  omega
/-- Those of a flow. -/
def ofF (l : List Hel) (f : Nat) : List Hel := l.filter (fun x => decide (x.flow = (f : Int)))
theorem ofF_app (l r : List Hel) (f : Nat) : ofF (l ++ r) f = ofF l f ++ ofF r f := List.filter_append ..
theorem ofF_one (x : Hel) (f : Nat) : ofF [x] f = if x.flow = (f : Int) then [x] else [] := by
  unfold ofF
  by_cases h : x.flow = (f : Int) <;> simp [h]
theorem ofF_mem {l : List Hel} {f : Nat} {x : Hel} : x ∈ ofF l f ↔ x ∈ l ∧ x.flow = (f : Int) := by
  unfold ofF
  simp
theorem ofF_len (l : List Hel) (f : Nat) : (ofF l f).length ≤ l.length := List.length_filter_le _ _
theorem ofF_out (l : List Hel) (m : Int) (f : Nat) : ofF (outN l m) f = outN (ofF l f) m := by
  unfold ofF outN
  rw [List.filter_filter, List.filter_filter]
  congr 1
  funext x
  exact Bool.and_comm _ _
theorem ofF_nodup {l : List Hel} {f : Nat} (h : (l.map Hel.n).Nodup) : ((ofF l f).map Hel.n).Nodup := h.sublist (List.Sublist.map _ List.filter_sublist)
theorem ofF_other {l : List Hel} {y : Hel} (hy : y ∈ l) (h : (l.map Hel.n).Nodup) {f : Nat} (hf : y.flow ≠ (f : Int)) : ofF (outN l y.n) f = ofF l f := by
  rw [ofF_out]
  refine outN_id fun x hx e => ?_
  obtain ⟨h1, h2⟩ := ofF_mem.1 hx
  have : x = y := num_inj h h1 hy e
  rw [this] at h2
  exact hf h2
theorem ofF_head {l : List Hel} {f : Nat} {x : Hel} {s : List Hel} (h : (l.map Hel.n).Nodup) (hs : ofF l f = x :: s) : ofF (outN l x.n) f = s := by
  rw [ofF_out, hs]
  exact outN_head (by rw [← hs]; exact ofF_nodup h)
def RndS.puts (a : RndS) (x : Hel) : RndS := ⟨a.l ++ [x], if ofF a.l x.flow.toNat = [] then a.turn ++ [x.flow.toNat] else a.turn, a.begun, if ofF a.l x.flow.toNat = [] then fu a.credit x.flow.toNat 0 else a.credit⟩
/-- The credit of the flow whose turn it is. -/
def RndS.cred (a : RndS) (q : RndP) (f : Nat) : Int := if a.begun then a.credit f else a.credit f + q.quanta f
/-- Its turn is over. -/
def RndS.pass (a : RndS) (f : Nat) (r : List Nat) (c : Int) : RndS := ⟨a.l, r ++ [f], false, fu a.credit f c⟩
def RndS.gone (a : RndS) (f : Nat) (r : List Nat) (x : Hel) (s : List Hel) (c : Int) : RndS := ⟨outN a.l x.n, if s = [] then r else f :: r, if s = [] then false else true, fu a.credit f (c - x.len)⟩
def takeR (q : RndP) : Nat → RndS → RndS × Hel × List Hel × Bool
  | 0, a => (a, .zero, [], false)
  | n + 1, a => match a.turn with
    | [] => (a, .zero, [], false)
    | f :: r => match ofF a.l f with
      | [] => (a, .zero, [], false)
      | x :: s => if a.cred q f < x.len then takeR q n (a.pass f r (a.cred q f)) else (a.gone f r x s (a.cred q f), x, [], true)
def need1 (a : RndS) (f : Nat) : Nat := (10001 - a.credit f).toNat
def sumN (g : Nat → Nat) : List Nat → Nat
  | [] => 0
  | x :: l => g x + sumN g l
theorem sumN_app (g : Nat → Nat) (l r : List Nat) : sumN g (l ++ r) = sumN g l + sumN g r := by
  induction l with
  | nil => simp [sumN]
  | cons x l ih => simp [sumN, ih]; omega
theorem sumN_congr {g h : Nat → Nat} {l : List Nat} (e : ∀ x ∈ l, g x = h x) : sumN g l = sumN h l := by
  induction l with
  | nil => rfl
  | cons x l ih => rw [sumN, sumN, e x (List.mem_cons_self ..), ih (fun y hy => e y (List.mem_cons_of_mem _ hy))]
/-- How many rounds there are at most. -/
def RndS.fuel (a : RndS) : Nat := sumN (need1 a) a.turn + (if a.begun then 1 else 0) + 1
def rounds (q : RndP) : Mach RndS where
  put a _ x := if q.room ≤ ((ofF a.l x.flow.toNat).length : Int) then (a, [x]) else (a.puts x, [])
  take a _ := takeR q a.fuel a
  when_ a t := (a, t, decide (0 < a.l.length))
  all a := a.l
theorem rounds_full {q : RndP} {a : RndS} {t : Int} {x : Hel} (h : q.room ≤ ((ofF a.l x.flow.toNat).length : Int)) : (rounds q).put a t x = (a, [x]) := if_pos h
theorem rounds_fits {q : RndP} {a : RndS} {t : Int} {x : Hel} (h : ¬ q.room ≤ ((ofF a.l x.flow.toNat).length : Int)) : (rounds q).put a t x = (a.puts x, []) := if_neg h
theorem takeR_none {q : RndP} {a : RndS} {n : Nat} (h : a.turn = []) : takeR q (n + 1) a = (a, .zero, [], false) := by simp [takeR, h]
theorem takeR_pass {q : RndP} {a : RndS} {n f : Nat} {r : List Nat} {x : Hel} {s : List Hel} (h : a.turn = f :: r) (h2 : ofF a.l f = x :: s) (h3 : a.cred q f < x.len) : takeR q (n + 1) a = takeR q n (a.pass f r (a.cred q f)) := by simp [takeR, h, h2, h3]
theorem takeR_gone {q : RndP} {a : RndS} {n f : Nat} {r : List Nat} {x : Hel} {s : List Hel} (h : a.turn = f :: r) (h2 : ofF a.l f = x :: s) (h3 : ¬ a.cred q f < x.len) : takeR q (n + 1) a = (a.gone f r x s (a.cred q f), x, [], true) := by simp [takeR, h, h2, h3]
structure RndOk (q : RndP) (a : RndS) (n : Nat) : Prop where
  l : FifoOk a.l n
  pos : ∀ x ∈ a.l, 1 ≤ x.len
  nums : (a.l.map Hel.n).Nodup
  lt : ∀ x ∈ a.l, 0 ≤ x.n ∧ x.n < n
  flow : ∀ x ∈ a.l, 0 ≤ x.flow ∧ x.flow ≤ 15
  turn : ∀ k, k ∈ a.turn ↔ ofF a.l k ≠ []
  nodup : a.turn.Nodup
  few : a.turn.length ≤ n
  cred : ∀ f, 0 ≤ a.credit f ∧ a.credit f ≤ 1010000
  low : ∀ f ∈ (if a.begun then a.turn.tail else a.turn), a.credit f ≤ 10000
  begun : a.begun = true → a.turn ≠ []
theorem RndOk.small {q : RndP} {a : RndS} {n : Nat} (h : RndOk q a n) {f : Nat} (hf : f ∈ a.turn) : f ≤ 15 := by
  obtain ⟨x, hx⟩ := List.exists_mem_of_ne_nil _ ((h.turn f).1 hf)
  obtain ⟨h1, h2⟩ := ofF_mem.1 hx
  have := h.flow x h1
  omega
theorem rndOk_in {q : RndP} {a : RndS} {n : Nat} {t : Int} {x : Hel} (h : RndOk q a n) (g : GoodPut t x n) : RndOk q (a.puts x) (n + 1) := by
  have hx := g.num
  have hfl := g.flow
  have hlen := g.len
  have hcast : (x.flow.toNat : Int) = x.flow := Int.toNat_of_nonneg hfl.1
  have hnew : ofF a.l x.flow.toNat = [] → x.flow.toNat ∉ a.turn := fun e k => ((h.turn _).1 k) e
  refine ⟨h.l.snoc g, fun y hy => ?_, ?_, fun y hy => ?_, fun y hy => ?_, fun k => ?_, ?_, ?_, fun f => ?_, fun f hf => ?_, fun hb => ?_⟩
  · rcases List.mem_append.1 hy with k | k
    · exact h.pos y k
    · obtain rfl := List.mem_singleton.1 k; exact hlen.1
  · show ((a.l ++ [x]).map Hel.n).Nodup
    rw [List.map_append, List.nodup_append]
    refine ⟨h.nums, by simp, fun b hb c hc e => ?_⟩
    obtain ⟨y, hy, rfl⟩ := List.mem_map.1 hb
    simp at hc
    have := (h.lt y hy).2
    omega
  · rcases List.mem_append.1 hy with k | k
    · have := h.lt y k; omega
    · obtain rfl := List.mem_singleton.1 k; omega
  · rcases List.mem_append.1 hy with k | k
    · exact h.flow y k
    · obtain rfl := List.mem_singleton.1 k; exact hfl
  · show k ∈ (if ofF a.l x.flow.toNat = [] then a.turn ++ [x.flow.toNat] else a.turn) ↔ ofF (a.l ++ [x]) k ≠ []
    rw [ofF_app, ofF_one]
    by_cases he : ofF a.l x.flow.toNat = []
    · rw [if_pos he]
      by_cases hk : x.flow = (k : Int)
      · have : x.flow.toNat = k := by omega
        simp [hk]
      · rw [if_neg hk, List.append_nil, List.mem_append, h.turn k]
        simp
        omega
    · rw [if_neg he, h.turn k]
      by_cases hk : x.flow = (k : Int)
      · have : x.flow.toNat = k := by omega
        rw [this] at he
        simp [hk, he]
      · simp [hk]
  · show (if ofF a.l x.flow.toNat = [] then a.turn ++ [x.flow.toNat] else a.turn).Nodup
    split
    · rename_i he
      rw [List.nodup_append]
      refine ⟨h.nodup, by simp, fun b hb c hc e => ?_⟩
      simp at hc
      subst hc e
      exact hnew he hb
    · exact h.nodup
  · show (if ofF a.l x.flow.toNat = [] then a.turn ++ [x.flow.toNat] else a.turn).length ≤ n + 1
    have := h.few
    split
    · simp; omega
    · omega
  · show 0 ≤ (if ofF a.l x.flow.toNat = [] then fu a.credit x.flow.toNat 0 else a.credit) f ∧ (if ofF a.l x.flow.toNat = [] then fu a.credit x.flow.toNat 0 else a.credit) f ≤ 1010000
    split
    · by_cases e : f = x.flow.toNat
      · rw [e, fu_at]; omega
      · rw [fu_ne _ _ e]; exact h.cred f
    · exact h.cred f
  · replace hf : f ∈ (if a.begun then (if ofF a.l x.flow.toNat = [] then a.turn ++ [x.flow.toNat] else a.turn).tail else (if ofF a.l x.flow.toNat = [] then a.turn ++ [x.flow.toNat] else a.turn)) := hf
    show (if ofF a.l x.flow.toNat = [] then fu a.credit x.flow.toNat 0 else a.credit) f ≤ 10000
    by_cases he : ofF a.l x.flow.toNat = []
    · rw [if_pos he] at hf
      rw [if_pos he]
      by_cases e : f = x.flow.toNat
      · rw [e, fu_at]; omega
      · rw [fu_ne _ _ e]
        apply h.low f
        cases hb : a.begun with
        | true =>
          rw [hb, if_pos rfl] at hf
          rw [if_pos rfl]
          have h0 := h.begun hb
          rw [List.tail_append_of_ne_nil h0] at hf
          rcases List.mem_append.1 hf with k | k
          · exact k
          · exact absurd (List.mem_singleton.1 k) e
        | false =>
          rw [hb, if_neg (by simp)] at hf
          rw [if_neg (by simp)]
          rcases List.mem_append.1 hf with k | k
          · exact k
          · exact absurd (List.mem_singleton.1 k) e
    · rw [if_neg he] at hf
      rw [if_neg he]
      exact h.low f hf
  · show (if ofF a.l x.flow.toNat = [] then a.turn ++ [x.flow.toNat] else a.turn) ≠ []
    have := h.begun hb
    split
    · simp
    · exact this
theorem rounds_put_ok {q : RndP} {a : RndS} {n : Nat} {t : Int} {x : Hel} (h : RndOk q a n) (g : GoodPut t x n) : RndOk q ((rounds q).put a t x).1 (n + 1) ∧ ((rounds q).put a t x).2.length ≤ 1000 := by
  by_cases hf : q.room ≤ ((ofF a.l x.flow.toNat).length : Int)
  · rw [rounds_full hf]
    have hn := g.few
    have hfew := h.few
    exact ⟨⟨h.l.up hn, h.pos, h.nums, fun y hy => by have := h.lt y hy; omega, h.flow, h.turn, h.nodup, Nat.le_succ_of_le hfew, h.cred, h.low, h.begun⟩, by simp⟩
  · rw [rounds_fits hf]
    exact ⟨rndOk_in h g, Nat.zero_le _⟩
theorem RndOk.head {q : RndP} {a : RndS} {n : Nat} (h : RndOk q a n) {f : Nat} {r : List Nat} (ht : a.turn = f :: r) : ∃ x s, ofF a.l f = x :: s ∧ x ∈ a.l ∧ x.flow = (f : Int) ∧ 1 ≤ x.len ∧ x.len ≤ 10000 := by
  obtain ⟨x, s, hs⟩ := List.exists_cons_of_ne_nil ((h.turn f).1 (by rw [ht]; exact List.mem_cons_self ..))
  obtain ⟨h1, h2⟩ := ofF_mem.1 (show x ∈ ofF a.l f by rw [hs]; exact List.mem_cons_self ..)
  have h3 := h.l.lens x h1
  exact ⟨x, s, hs, h1, h2, h.pos x h1, by omega⟩
theorem RndOk.credB {q : RndP} (hq : q.Ok) {a : RndS} {n : Nat} (h : RndOk q a n) {f : Nat} {r : List Nat} (ht : a.turn = f :: r) : 0 ≤ a.cred q f ∧ a.cred q f ≤ 1010000 := by
  have h1 := h.cred f
  have h2 := hq.quanta f
  unfold RndS.cred
  cases hb : a.begun with
  | true => rw [if_pos rfl]; exact h1
  | false =>
    rw [if_neg (by simp)]
    have h3 := h.low f (by rw [hb, if_neg (by simp), ht]; exact List.mem_cons_self ..)
    omega
theorem RndOk.pass {q : RndP} (hq : q.Ok) {a : RndS} {n : Nat} (h : RndOk q a n) {f : Nat} {r : List Nat} {x : Hel} {s : List Hel} (ht : a.turn = f :: r) (hs : ofF a.l f = x :: s) (hc : a.cred q f < x.len) : RndOk q (a.pass f r (a.cred q f)) n ∧ (a.pass f r (a.cred q f)).fuel + 1 ≤ a.fuel := by
  have hcb := h.credB hq ht
  have hxl := ofF_mem.1 (show x ∈ ofF a.l f by rw [hs]; exact List.mem_cons_self ..)
  have hx1 := h.l.lens x hxl.1
  have hnd := h.nodup
  rw [ht, List.nodup_cons] at hnd
  have hlen := h.few
  rw [ht, List.length_cons] at hlen
  have hm : ∀ k, k ∈ r ++ [f] ↔ k ∈ a.turn := fun k => by rw [ht]; simp [or_comm]
  refine ⟨⟨h.l, h.pos, h.nums, h.lt, h.flow, fun k => (hm k).trans (h.turn k), ?_, by simp [RndS.pass]; omega, fun k => ?_, fun k hk => ?_, fun e => by cases e⟩, ?_⟩
  · show (r ++ [f]).Nodup
    rw [List.nodup_append]
    exact ⟨hnd.2, by simp, fun b hb c hc e => by simp at hc; subst hc e; exact hnd.1 hb⟩
  · show 0 ≤ fu a.credit f (a.cred q f) k ∧ fu a.credit f (a.cred q f) k ≤ 1010000
    by_cases e : k = f
    · rw [e, fu_at]; exact hcb
    · rw [fu_ne _ _ e]; exact h.cred k
  · show fu a.credit f (a.cred q f) k ≤ 10000
    by_cases e : k = f
    · rw [e, fu_at]; omega
    · rw [fu_ne _ _ e]
      have hk2 : k ∈ r ++ [f] := hk
      have hk3 : k ∈ r := (List.mem_append.1 hk2).resolve_right (fun z => e (List.mem_singleton.1 z))
      apply h.low k
      rw [ht]
      cases a.begun
      · exact List.mem_cons_of_mem _ hk3
      · exact hk3
  · unfold RndS.fuel
    show sumN (need1 (a.pass f r (a.cred q f))) (r ++ [f]) + (if false = true then 1 else 0) + 1 + 1 ≤ sumN (need1 a) a.turn + (if a.begun then 1 else 0) + 1
    have e1 : sumN (need1 (a.pass f r (a.cred q f))) r = sumN (need1 a) r := sumN_congr fun k hk => by
      have hkf : k ≠ f := fun e => hnd.1 (by rw [← e]; exact hk)
      show (10001 - fu a.credit f (a.cred q f) k).toNat = (10001 - a.credit k).toNat
      rw [fu_ne _ _ hkf]
    have e2 : sumN (need1 (a.pass f r (a.cred q f))) [f] = (10001 - a.cred q f).toNat := by
      show (10001 - fu a.credit f (a.cred q f) f).toNat + 0 = _
      rw [fu_at]
      rfl
    rw [sumN_app, e1, e2, ht]
    show _ ≤ need1 a f + sumN (need1 a) r + _ + 1
    unfold need1
    have hqf := hq.quanta f
    have hcr := h.cred f
    unfold RndS.cred at *
    cases hb : a.begun with
    | true => rw [hb] at *; simp; omega
    | false => rw [hb] at *; simp at *; omega
theorem RndOk.gone {q : RndP} (hq : q.Ok) {a : RndS} {n : Nat} (h : RndOk q a n) {f : Nat} {r : List Nat} {x : Hel} {s : List Hel} (ht : a.turn = f :: r) (hs : ofF a.l f = x :: s) (hc : ¬ a.cred q f < x.len) : RndOk q (a.gone f r x s (a.cred q f)) n := by
  have hcb := h.credB hq ht
  have hxl := ofF_mem.1 (show x ∈ ofF a.l f by rw [hs]; exact List.mem_cons_self ..)
  have hx1 := h.l.lens x hxl.1
  have hx2 := h.pos x hxl.1
  have hnd := h.nodup
  rw [ht, List.nodup_cons] at hnd
  have hlen := h.few
  rw [ht, List.length_cons] at hlen
  have hks := ofF_head h.nums hs
  have ho : ∀ j, j ≠ f → ofF (outN a.l x.n) j = ofF a.l j := fun j hj => ofF_other hxl.1 h.nums (by rw [hxl.2]; omega)
  refine ⟨h.l.out _, fun z hz => h.pos z (List.mem_filter.1 hz).1, outN_nodup h.nums, fun z hz => h.lt z (List.mem_filter.1 hz).1, fun z hz => h.flow z (List.mem_filter.1 hz).1, fun j => ?_, ?_, ?_, fun k => ?_, fun k hk => ?_, fun e => ?_⟩
  · show j ∈ (if s = [] then r else f :: r) ↔ ofF (outN a.l x.n) j ≠ []
    have h2 := h.turn j
    rw [ht, List.mem_cons] at h2
    by_cases hj : j = f
    · subst hj
      rw [hks]
      split
      · rename_i hs0; simp [hs0, hnd.1]
      · rename_i hs0; simp [hs0]
    · rw [ho j hj, ← h2]
      split <;> simp [hj]
  · show (if s = [] then r else f :: r).Nodup
    split
    · exact hnd.2
    · exact List.nodup_cons.2 hnd
  · show (if s = [] then r else f :: r).length ≤ n
    split
    · omega
    · simp; omega
  · show 0 ≤ fu a.credit f (a.cred q f - x.len) k ∧ fu a.credit f (a.cred q f - x.len) k ≤ 1010000
    by_cases e : k = f
    · rw [e, fu_at]; omega
    · rw [fu_ne _ _ e]; exact h.cred k
  · replace hk : k ∈ (if (if s = [] then false else true) = true then (if s = [] then r else f :: r).tail else (if s = [] then r else f :: r)) := hk
    show fu a.credit f (a.cred q f - x.len) k ≤ 10000
    have hkr : k ∈ r := by
      by_cases hs0 : s = []
      · simpa [hs0] using hk
      · simpa [hs0] using hk
    have e : k ≠ f := fun e => hnd.1 (by rw [← e]; exact hkr)
    rw [fu_ne _ _ e]
    apply h.low k
    rw [ht]
    cases a.begun
    · exact List.mem_cons_of_mem _ hkr
    · exact hkr
  · replace e : (if s = [] then false else true) = true := e
    show (if s = [] then r else f :: r) ≠ []
    by_cases hs0 : s = []
    · rw [if_pos hs0] at e; cases e
    · rw [if_neg hs0]; simp
theorem takeR_ok {q : RndP} (hq : q.Ok) {n : Nat} : ∀ (m : Nat) (a : RndS), RndOk q a n → RndOk q (takeR q m a).1 n ∧ (takeR q m a).2.2.1 = [] := by
  intro m
  induction m with
  | zero => exact fun a h => ⟨h, rfl⟩
  | succ m ih =>
    intro a h
    cases ht : a.turn with
    | nil => rw [takeR_none ht]; exact ⟨h, rfl⟩
    | cons f r =>
      obtain ⟨x, s, hs, _⟩ := h.head ht
      by_cases hc : a.cred q f < x.len
      · rw [takeR_pass ht hs hc]; exact ih _ (h.pass hq ht hs hc).1
      · rw [takeR_gone ht hs hc]; exact ⟨h.gone hq ht hs hc, rfl⟩
theorem rounds_take_ok {q : RndP} (hq : q.Ok) {a : RndS} {n : Nat} {t : Int} (h : RndOk q a n) : RndOk q ((rounds q).take a t).1 n ∧ ((rounds q).take a t).2.2.1 = [] := takeR_ok hq _ a h
end Go.Proofs.YtbpofdfehcbppaaDoor

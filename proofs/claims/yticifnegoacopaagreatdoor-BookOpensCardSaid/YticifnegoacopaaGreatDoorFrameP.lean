/-
  The frame of every law of this seat, less what only a tied card wants: arguments read as they did, and the row's post from 'true, and nothing that was there has turned'; slices of ints and of records that came in.
-/
import Derived.Test.YticifnegoacopaaGreatDoorPlain
import Derived.Test.YticifnegoacopaaGreatDoorItems
import Derived.Test.YticifnegoacopaaGreatDoorRows
import Derived.ProofKit
import Derived.OpenShut
import Derived.Deep.DeepHandedRow
import Derived.LaidHandle
import Derived.LaidLaws
import Derived.Deep.Fields
namespace Go.Proofs.YticifnegoacopaaGreatDoor
open Go.ChangeShapes Go.WideShapes Go.ChangeAt Go.RowKit Go.Deep

theorem own : ownKnob Tryz.prog.godebug = none := by kernel_rfl
theorem laidOut : laidOutB Tryz.prog = true := by kernel_rfl
set_option maxRecDepth 100000 in
/-- Arguments read as they did. -/
theorem trodAll_stays {H : Type} {enc : TypeId × Value → H} {W W' : World} (hG : Gr W W') (ts : List TypeId) :
    ∀ {vs : List Value} {ds : List (DataW H)} {ps : List MemPlace}, ts.all (fun t => Tryz.prog.readableRec t && decide (t < Tryz.prog.types.size)) = true →
      DataW.TrodAll enc Tryz.prog W 0 (fun _ => true) true ts vs ds ps → (∀ x ∈ ps, x.block < W.heap.size) →
      DataW.TrodAll enc Tryz.prog W' 0 (fun b => decide (b < W.heap.size)) true ts vs ds ps := by
  induction ts with
  | nil =>
    intro vs ds ps _ h _
    obtain ⟨rfl, rfl, rfl⟩ := trodAll_nil h
    exact trodAll_mk0
  | cons t ts ih =>
    intro vs ds ps ht h hlt
    obtain ⟨v, vs1, d, ds1, a, b, rfl, rfl, rfl, h1, h2⟩ := trodAll_cons h
    rw [List.all_cons, Bool.and_eq_true, Bool.and_eq_true] at ht
    exact trodAll_cons_mk (Below.trod laidOut ht.1.1 (of_decide_eq_true ht.1.2) h1 hG (fun x hx => hlt x (List.mem_append_left _ hx))) (ih ht.2 h2 (fun x hx => hlt x (List.mem_append_right _ hx)))

set_option maxRecDepth 100000 in
/-- The row's post. -/
theorem law_post {H : Type} {enc : TypeId × Value → H} {f : Func} {s : ChangeSpec} {W W' : World} {args : Array Value} {ds gs : List (DataW H)} {before : List MemPlace} {tb : TypeId}
    (hvars : s.vars = []) (ht : f.params.toList.all (fun t => Tryz.prog.readableRec t && decide (t < Tryz.prog.types.size)) = true) (hres : f.resultTypes = #[tb]) (hb : Tryz.prog.underlying tb = some .bool)
    (hspec : ∀ ds : List (DataW H), ds.length = f.params.toList.length → s.fn H ds = { results := [.lit (.bool true)], args := ds })
    (hW : DataW.Whole enc Tryz.prog f.params.toList s.vars false W args.toList ds gs before) (hG : Gr W W') :
    s.post enc Tryz.prog f false true false false W args (.bool true) W' := by
  have hW' := hW
  obtain ⟨p, q, hA, hV, rfl, hfz, hnd⟩ := hW
  rw [hvars] at hV
  obtain ⟨rfl, rfl⟩ := trodVars_none hV
  have hlen : ∀ {ts : List TypeId} {vs : List Value} {ds : List (DataW H)} {ps : List MemPlace}, DataW.TrodAll enc Tryz.prog W 0 (fun _ => true) true ts vs ds ps → ds.length = ts.length := by
    intro ts
    induction ts with
    | nil => intro vs ds ps h; obtain ⟨rfl, rfl, rfl⟩ := trodAll_nil h; rfl
    | cons t ts ih => intro vs ds ps h; obtain ⟨v, vs1, d, ds1, a, b, rfl, rfl, rfl, h1, h2⟩ := trodAll_cons h; simp [ih h2]
  have e1 := hspec ds (hlen hA)
  have hlt : ∀ x ∈ p, x.block < W.heap.size := fun x hx => hW'.lt x (List.mem_append_left _ hx)
  refine ⟨ds, [], _, [], p, [], hW', ?_, ?_, ?_, Below.frame hG _, fun h => by cases h⟩
  · rw [List.append_nil, e1, hres]
    exact trodAll_mk1 (shut_bool hb true)
  · rw [List.append_nil, e1]
    exact trodAll_stays hG _ ht hA hlt
  · rw [hvars, List.append_nil, e1]
    rfl

set_option maxRecDepth 100000 in
/-- A slice of ints that came in. -/
theorem ints_of_trod {H : Type} {enc : TypeId × Value → H} {W : World} {base : Nat} {t e : TypeId} {v : Value} {d : DataW H} {ps : List MemPlace} (ht : Tryz.prog.underlying t = some (.slice e)) (he : Tryz.prog.underlying e = some (.int .i64)) (hc : Tryz.prog.cellsOf e = 1)
    (hok : Value.okWide Tryz.prog W .any base t v) (h : DataW.Trod enc Tryz.prog W 0 (fun _ => true) true t v d ps) : ∃ xs : List Int, Ints W v xs ∧ ∀ x ∈ xs, -9223372036854775808 ≤ x ∧ x ≤ 9223372036854775807 := by
  obtain ⟨a, len, cap, rfl⟩ := okWide_slice ht hok
  obtain ⟨fuel, hf⟩ := h
  rcases open_ints ht he hc hf with ⟨hcs, _⟩ | ⟨a', len', cap', zs, hcs, _, hl, hm, hz, _, hcell, hwz⟩
  · simp [Value.cells] at hcs
    obtain ⟨rfl, rfl, rfl⟩ := hcs
    exact ⟨[], .inl ⟨_, _, rfl, rfl⟩, by simp⟩
  · simp [Value.cells] at hcs hz
    obtain ⟨rfl, rfl, rfl⟩ := hcs
    have hlen : (zs.take len).length = len := by simp; omega
    refine ⟨zs.take len, ?_, fun x hx => ?_⟩
    · rcases Nat.eq_zero_or_pos len with h0 | h0
      · subst h0
        exact .inl ⟨_, _, rfl, by simp⟩
      · obtain ⟨b, off, sp⟩ := a'
        have h00 := hcell 0 (by omega)
        have hsp : sp = none := by
          cases sp with
          | none => rfl
          | some q =>
            exfalso
            simp [Addr.add, World.cell?] at h00
            split at h00 <;> simp at h00
        subst hsp
        refine .inr ⟨b, off, cap, by rw [hlen], by omega, by unfold maxLen at hm; omega, fun i hi => ?_⟩
        rw [hlen] at hi
        have := hcell i (by omega)
        have e2 : Addr.add ⟨b, off, none⟩ i = ⟨b, off + i, none⟩ := by unfold Addr.add; split <;> simp_all
        rw [e2] at this
        rw [this]
        simp [List.getD_eq_getElem?_getD, hi]
    · have := hwz x (List.mem_of_mem_take hx)
      simp only [Lit.wf, Bool.and_eq_true, decide_eq_true_eq] at this
      exact this
theorem int_bounds {n : Int} (h : (Lit.int .i64 n).wf = true) : -9223372036854775808 ≤ n ∧ n ≤ 9223372036854775807 := by
  simp only [Lit.wf, Bool.and_eq_true, decide_eq_true_eq] at h
  exact h

theorem addr_add (b off i : Nat) : Addr.add ⟨b, off, none⟩ i = ⟨b, off + i, none⟩ := by unfold Addr.add; split <;> simp_all
theorem spot_none {w : World} {b off i : Nat} {sp : Option Nat} {v : Value} (h : w.cell? (Addr.add ⟨b, off, sp⟩ i) = some v) (hi : i = 0) : sp = none := by
  subst hi
  cases sp with
  | none => rfl
  | some q =>
    exfalso
    simp [Addr.add, World.cell?] at h
    split at h <;> simp at h

set_option maxRecDepth 100000 in
theorem int_cell {H : Type} {enc : TypeId × Value → H} {W : World} {n : Nat} {t : TypeId} {cs : List Value} {y : DataW H × List MemPlace} (ht : Tryz.prog.underlying t = some (.int .i64)) (h : DataW.trod enc Tryz.prog W 0 (fun _ => true) true n t cs = some y) :
    ∃ z : Int, cs = [.int .i64 z] ∧ -9223372036854775808 ≤ z ∧ z ≤ 9223372036854775807 := by
  obtain ⟨z, hz, _, hw⟩ := DataW.trod_int ht h
  exact ⟨z, hz, int_bounds hw⟩

theorem cellsInt : Tryz.prog.cellsOf 3 = 1 := by kernel_rfl

/-- T is a struct of m ints, one behind the other. -/
def IntRec (T : TypeId) (m : Nat) : Prop := Tryz.prog.cellsOf T = m ∧ ∃ fs : Array Field, Tryz.prog.underlying T = some (.struct fs) ∧ fs.size = m ∧ ∀ j, j < m → ∃ f, fs[j]? = some f ∧ f.offset = j ∧ f.type = 3

set_option maxRecDepth 100000 in
theorem rec_of_cells {H : Type} {enc : TypeId × Value → H} {W : World} {n m : Nat} {T : TypeId} {cs : List Value} {y : DataW H × List MemPlace} (hT : IntRec T m) (h : DataW.trod enc Tryz.prog W 0 (fun _ => true) true n T cs = some y) :
    ∃ F : Nat → Int, cs.length = m ∧ ∀ j, j < m → cs[j]? = some (.int .i64 (F j)) ∧ Bd (F j) := by
  obtain ⟨hc, fs, hu, hs, hfs⟩ := hT
  obtain ⟨xs, m', _, _, hcl, hl, hf⟩ := DataW.trod_struct hu h
  rw [hc] at hcl
  have each : ∀ j, j < m → ∃ z : Int, cs[j]? = some (.int .i64 z) ∧ Bd z := by
    intro j hj
    obtain ⟨f, hff, ho, ht⟩ := hfs j hj
    have e := hf j f hff
    rw [ho, ht, cellsInt, List.getElem?_eq_getElem (show j < xs.length by rw [hl]; omega)] at e
    obtain ⟨z, hz, b1, b2⟩ := int_cell Tryz.underlying3 e
    refine ⟨z, ?_, b1, b2⟩
    have h0 : (List.take 1 (List.drop j cs))[0]? = some (.int .i64 z) := by rw [hz]; rfl
    rw [List.getElem?_take_of_lt (by omega), List.getElem?_drop] at h0
    simpa using h0
  refine ⟨fun j => if hj : j < m then Classical.choose (each j hj) else 0, hcl, fun j hj => ?_⟩
  simp only [dif_pos hj]
  exact Classical.choose_spec (each j hj)

theorem choose_fun {α : Type} [Inhabited α] {P : Nat → α → Prop} (n : Nat) (h : ∀ i, i < n → ∃ x, P i x) : ∃ F : Nat → α, ∀ i, i < n → P i (F i) := by
  refine ⟨fun i => if hi : i < n then Classical.choose (h i hi) else default, fun i hi => ?_⟩
  simp only [dif_pos hi]
  exact Classical.choose_spec (h i hi)

set_option maxRecDepth 100000 in
/-- A slice of records of ints, as its cells. -/
theorem recs_of_cells {H : Type} {enc : TypeId × Value → H} {W : World} {n m : Nat} {t T : TypeId} {v : Value} {y : DataW H × List MemPlace} (hu : Tryz.prog.underlying t = some (.slice T)) (hT : IntRec T m) (h0m : 0 < m)
    (hv : ∃ a len cap, v = .slice a len cap) (h : DataW.trod enc Tryz.prog W 0 (fun _ => true) true n t v.cells.toList = some y) : ∃ (k : Nat) (F : Nat → Nat → Int), Recs m W v k F ∧ ∀ i, i < k → ∀ j, j < m → Bd (F i j) := by
  obtain ⟨a, len, cap, rfl⟩ := hv
  rcases DataW.trod_slice hu h with ⟨hcs, _⟩ | ⟨a', len', cap', elems, rest, n, _, hcs, _, _, hl, hm, hlen, hel, _, _⟩
  · simp [Value.cells] at hcs
    obtain ⟨rfl, rfl, rfl⟩ := hcs
    exact ⟨0, fun _ _ => 0, .inl ⟨_, _, rfl, rfl⟩, fun i hi => absurd hi (by omega)⟩
  · simp [Value.cells] at hcs
    obtain ⟨rfl, rfl, rfl⟩ := hcs
    rcases Nat.eq_zero_or_pos len with h0 | h0
    · subst h0
      exact ⟨0, fun _ _ => 0, .inl ⟨_, _, rfl, rfl⟩, fun i hi => absurd hi (by omega)⟩
    · have each : ∀ i, i < len → ∃ F : Nat → Int, (∀ j, j < m → Bd (F j)) ∧ ∀ j, j < m → W.cell? ((a'.add (i * m)).add j) = some (.int .i64 (F j)) := by
        intro i hi
        have h1 := hel i hi
        rw [List.getElem?_eq_getElem (by omega), hT.1] at h1
        obtain ⟨cs, hcs, ht⟩ := Option.bind_eq_some_iff.1 h1
        obtain ⟨F, hF1, hF2⟩ := rec_of_cells hT ht
        obtain ⟨_, _, hcell⟩ := World.cells?_some hcs
        exact ⟨F, fun j hj => (hF2 j hj).2, fun j hj => by rw [hcell j hj]; exact (hF2 j hj).1⟩
      obtain ⟨b, off, sp⟩ := a'
      obtain ⟨F0, _, hc0⟩ := each 0 h0
      obtain rfl : sp = none := by
        have := hc0 0 h0m
        rw [show Addr.add ⟨b, off, sp⟩ (0 * m) = ⟨b, off, sp⟩ from by rw [Nat.zero_mul]; rfl] at this
        exact spot_none this rfl
      obtain ⟨F, hF⟩ := choose_fun len each
      refine ⟨len, F, .inr ⟨b, off, cap, rfl, h0, ⟨by omega, by unfold maxLen at hm; omega⟩, fun i hi j hj => ?_⟩, fun i hi j hj => (hF i hi).1 j hj⟩
      have := (hF i hi).2 j hj
      rw [addr_add, addr_add] at this
      exact this

set_option maxRecDepth 100000 in
/-- A slice of records of ints that came in. -/
theorem recs_of_trod {H : Type} {enc : TypeId × Value → H} {W : World} {base m : Nat} {t T : TypeId} {v : Value} {d : DataW H} {ps : List MemPlace} (hu : Tryz.prog.underlying t = some (.slice T)) (hT : IntRec T m) (h0m : 0 < m)
    (hok : Value.okWide Tryz.prog W .any base t v) (h : DataW.Trod enc Tryz.prog W 0 (fun _ => true) true t v d ps) : ∃ (k : Nat) (F : Nat → Nat → Int), Recs m W v k F ∧ ∀ i, i < k → ∀ j, j < m → Bd (F i j) := by
  obtain ⟨fuel, hf⟩ := h
  exact recs_of_cells hu hT h0m (okWide_slice hu hok) hf
end Go.Proofs.YticifnegoacopaaGreatDoor

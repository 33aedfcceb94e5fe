/-
  Regions that draw their order, within a round of a range over a function.
-/
import Derived.Test.YtofhmbbodoedjaaDoorRegL
import Derived.RangeFuncCalls
import Derived.RangeFuncNested
import Derived.OrdersIn
import Derived.TacticsInMore
namespace Go.Proofs.YtofhmbbodoedjaaDoor
open Go Go.RowKit

section
variable {P : Program} {n l : Nat}
abbrev inR (l : Nat) : Fence := Fence.wide.inRound l
theorem upon_in {o : Oper} {a : Act} {K : Act → World → Prop} {Q : Exit → Act → World → Prop} (r : Result Next) (h : o.upon P a K Q r) : o.uponIn (inR l) n P a K Q r := by
  cases r with
  | ok x w' =>
    cases x with
    | value v => exact h
    | skip => exact h
    | enter f args => exact ⟨(fun h => by cases h), CallsIn.inRound l (callsIn_wide.2 h)⟩
    | defer d => exact h
    | row r as => exact ⟨(fun h => by cases h), fun c cs _ => let ⟨v, w', r, s⟩ := h c cs; ⟨v, w', r, stepsIn_wide.2 s⟩⟩
    | round _ _ _ _ _ => exact h.elim
    | _ => exact h.elim
  | halt x w' =>
    cases x with
    | panic v => exact h
    | _ => exact h.elim
def noDefer (o : Oper) : Bool := match o.op with
  | .defer _ => false
  | _ => true
theorem noDefer_ne {o : Oper} (h : noDefer o = true) : ∀ c, o.op ≠ .defer c := fun c e => by
  unfold noDefer at h
  rw [e] at h
  cases h
theorem op_in {o : Oper} {a : Act} {w : World} {K : Act → World → Prop} {Q : Exit → Act → World → Prop} (hd : noDefer o = true) (h : Oper.wp P o a w K Q) : Oper.wpIn (inR l) n P o a w K Q :=
  ⟨fun _ _ => trivial, by rw [show (inR l).round = some l from rfl, Oper.semAt_some l _ o (noDefer_ne hd)]; exact upon_in _ h⟩
theorem opA_in {ops : Array Oper} {i : Nat} {a : Act} {w : World} {K : Act → World → Prop} {Q : Exit → Act → World → Prop} (hd : ops.all noDefer = true) (hno : ¬ LetsOut Q) (h : wpOp P ops Q i K a w) : wpOpIn (inR l) n P ops Q i K a w := by
  unfold wpOp at h
  unfold wpOpIn
  cases ho : ops[i]? with
  | none => rw [ho] at h; exact h
  | some o =>
    rw [ho] at h
    simp only at h ⊢
    have hn : noDefer o = true := Array.all_eq_true'.1 hd o (Array.mem_of_getElem? ho)
    by_cases hw : Region.wanted o (yielded ops a.tmps) = true
    · rw [if_pos hw] at h ⊢
      exact op_in hn (h.resolve_right fun e => hno e.2)
    · rw [if_neg hw] at h ⊢
      exact ⟨fun _ _ => trivial, h⟩
theorem any_in {md : Region.Mode} {ops : Array Oper} {Q : Exit → Act → World → Prop} (hd : ops.all noDefer = true) (hno : ¬ LetsOut Q) : ∀ (fuel : Nat) (listed : Array Bool) (a : Act) (w : World), wpAny P md ops Q fuel listed a w → wpAnyIn (inR l) n P md ops Q fuel listed a w
  | 0, _, _, _, h => h
  | fuel + 1, listed, _, _, h => ⟨h.1, fun i hi => opA_in hd hno (wpOp_mono (fun a w hh => any_in hd hno fuel (listed.setIfInBounds i true) a w hh) (h.2 i hi))⟩
/-- A region that draws its order: I holds throughout; each step keeps what the others left. -/
theorem wpIn_region_k {id m : Nat} {ls : List Oper} (I : World → Prop) (fs : List Fg) {a0 : Act} {w0 : World} {Q : Exit → Act → World → Prop} (ds : List Tmp) (hI0 : I w0.drew) (hd : ls.toArray.all noDefer = true) (hno : ¬ LetsOut Q) (hm : P.follows .mixedOrders = true) (hB : headB ls.toArray m a0.tmps.size = true) (hds : (List.range m).all (fun j => decide (slotOf ls.toArray j = ds[j]?)) = true)
    (hstep : ∀ L i o a w, i < m → ls.toArray[i]? = some o → KAt ls.toArray m fs I a0 L i a w → Oper.wp P o a w (KPost ls.toArray fs I L i o a w) Q)
    (hend : ∀ vs w, I w → (∀ j, j < m → (fgAt fs j).p (vs j) w) → wpList P ls.toArray Q (ls.drop m) (putN ds vs m a0) w) :
    (Code.region id ls.toArray true).wpIn (inR l) n P Q a0 w0 :=
  wpIn_region_any hm (any_in hd hno _ _ _ _ (any_region_inv (C := fun _ _ => false) hI0 hB (fun _ _ h => by cases h) (fun _ => rfl)
    (fun L i o a w hi ho hA => Oper.wp_mono (fun a' w' ⟨v, h1, h3, h4, h5⟩ => ⟨v, h1, h3, h4, h5, fun _ _ h => by cases h⟩) (hstep L i o a w hi ho hA))
    fun vs w hg hF => by rw [putAll_putN hds]; exact hend vs w hg hF))
theorem wpIn_region_gr {id m : Nat} {ls : List Oper} (fs : List Fg) {a0 : Act} {w0 : World} {Q : Exit → Act → World → Prop} (ds : List Tmp) (hd : ls.toArray.all noDefer = true) (hno : ¬ LetsOut Q) (hm : P.follows .mixedOrders = true) (hB : headB ls.toArray m a0.tmps.size = true) (hds : (List.range m).all (fun j => decide (slotOf ls.toArray j = ds[j]?)) = true)
    (hstep : ∀ L i o a w, i < m → ls.toArray[i]? = some o → GrAt ls.toArray m fs a0 w0.drew L i a w → Oper.wp P o a w (GrPost fs i o a w) Q)
    (hend : ∀ vs w, Gr w0.drew w → (∀ j, j < m → (fgAt fs j).p (vs j) w) → wpList P ls.toArray Q (ls.drop m) (putN ds vs m a0) w) :
    (Code.region id ls.toArray true).wpIn (inR l) n P Q a0 w0 :=
  wpIn_region_any hm (any_in hd hno _ _ _ _ (any_region_inv (I := Gr w0.drew) (C := fun _ _ => false) (Gr.refl _) hB (fun _ _ h => by cases h) (fun _ => rfl)
    (fun L i o a w hi ho hA => Oper.wp_mono (fun a' w' ⟨v, h1, h2, h3⟩ => ⟨v, h1, hA.gr.trans h2, h3, fun j _ hf => (fgAt fs j).mono _ _ _ hf h2, fun _ _ h => by cases h⟩) (hstep L i o a w hi ho hA))
    fun vs w hg hF => by rw [putAll_putN hds]; exact hend vs w hg hF))
theorem wpIn_region_l {id m : Nat} {ls : List Oper} (I : Bool → World → Prop) (c : Nat) (fs : List Fv) {a0 : Act} {w0 : World} {Q : Exit → Act → World → Prop} (ds : List Tmp) (hI0 : I false w0.drew) (hcn : c < m) (hd : ls.toArray.all noDefer = true) (hno : ¬ LetsOut Q) (hm : P.follows .mixedOrders = true) (hB : headL ls.toArray m a0.tmps.size = true) (hds : (List.range m).all (fun j => decide (slotOf ls.toArray j = ds[j]?)) = true)
    (hon : onB ls.toArray m (fs.map Fv.on) = true)
    (hstep : ∀ L i o a w, i < m → ls.toArray[i]? = some o → LAt ls.toArray m fs I c a0 L i a w → Oper.wp P o a w (LPost ls.toArray fs I c L i o a w) Q)
    (hend : ∀ vs w, I true w → (∀ j, j < m → (fvAt fs j).p vs w) → wpList P ls.toArray Q (ls.drop m) (putN ds vs m a0) w) :
    (Code.region id ls.toArray true).wpIn (inR l) n P Q a0 w0 :=
  wpIn_region_any hm (any_in hd hno _ _ _ _ (any_region_l I c fs ds hI0 hcn hB hds hon hstep hend))
theorem lstep_old {ops : Array Oper} {fs : List Fv} {I : Bool → World → Prop} {c : Nat} {a0 : Act} {L : Nat → Prop} {i : Nat} {o : Oper} {a : Act} {w : World} {Q : Exit → Act → World → Prop} {f : FuncId} {args : Array Value} (hA : LAt ops n fs I c a0 L i a w) (hic : i ≠ c) (hr : (execOp a.eval o).run P w = .ok (.enter f args) w) (hI : ∀ b w', Gr w w' → I b w → I b w') (hc : Calls P f args w (fun e w' => ∃ v, e = .returned v ∧ Gr w w' ∧ ∀ f, f i = got o v → (fvAt fs i).p f w')) : Oper.wp P o a w (LPost ops fs I c L i o a w) Q := by
  unfold Oper.wp
  rw [hr]
  show Calls P f args w _
  refine hc.mono ?_
  rintro e w' ⟨v, rfl, hg, hk⟩
  exact ⟨v, rfl, ⟨fun h => hI _ _ hg (hA.yes (h.resolve_left hic)), fun h => hI _ _ hg (hA.no (fun h2 => h (.inr h2)))⟩, fun f hf _ => hk f hf, fun j _ h => (fvAt fs j).mono _ _ _ h hg⟩
theorem lstep_setc {ops : Array Oper} {fs : List Fv} {I : Bool → World → Prop} {c : Nat} {a0 : Act} {L : Nat → Prop} {i : Nat} {o : Oper} {a : Act} {w w' : World} {Q : Exit → Act → World → Prop} (_ : LAt ops n fs I c a0 L i a w) (hic : i = c) (hd : o.dst = none) (hr : (execOp a.eval o).run P w = .ok .skip w') (hI : I true w') (hk : ∀ f, (∀ j, L j → f j = valOf ops a j) → (fvAt fs i).p f w') (hkeep : ∀ j, L j → (fvAt fs j).p (valOf ops a) w → (fvAt fs j).p (valOf ops a) w') : Oper.wp P o a w (LPost ops fs I c L i o a w) Q := by
  unfold Oper.wp
  rw [hr]
  exact ⟨undef, by rw [hd], ⟨fun _ => hI, fun h => absurd (.inl hic) h⟩, fun f _ hL => hk f hL, hkeep⟩
end
end Go.Proofs.YtofhmbbodoedjaaDoor

/-
  What a queue is: an abstract machine, and what it is to lie behind an interface value of the program's or of the reference's. No walk here.
-/
import Derived.Test.YtgifghbnpdanhaaGreatDoorLst
import Derived.Test.YtgifghbnpdanhaaGreatDoorShaperPlaysPart1
import Derived.Test.YtgifghbnpdanhaaGreatDoorShaperPlaysPart9
namespace Go.Proofs.YtgifghbnpdanhaaGreatDoor
open Go.RowKit

/-- A queue, plainly. -/
structure Mach (α : Type) where
  put : α → Int → Hel → α × List Hel
  take : α → Int → α × Hel × List Hel × Bool
  when_ : α → Int → α × Int × Bool
  all : α → List Hel
/-- A step that is done. -/
structure Stp where
  what : Int
  later : Int
  it : Itm
def hel (x : Itm) (n : Nat) : Hel := ⟨x.t, x.len, x.flow, x.band, x.mark, n⟩
/-- What a step tells. -/
structure Out where
  taken : Int
  mark : Int
  at_ : Int
  lost : List Hel
section
variable {α : Type}
def Mach.outTake (r : α × Hel × List Hel × Bool) : Out := ⟨if r.2.2.2 then r.2.1.n else -1, if r.2.2.2 then r.2.1.mark else 0, -1, r.2.2.1⟩
def Mach.outWhen (r : α × Int × Bool) : Out := ⟨-1, 0, if r.2.2 then r.2.1 else -1, []⟩
def Mach.step (M : Mach α) (a : α) (s : Stp) (n : Nat) : α × Nat × Out :=
  if s.what = 0 then ((M.put a s.later (hel s.it n)).1, n + 1, ⟨-1, 0, -1, (M.put a s.later (hel s.it n)).2⟩)
  else if s.what = 1 then ((M.take a s.later).1, n, Mach.outTake (M.take a s.later))
  else ((M.when_ a s.later).1, n, Mach.outWhen (M.when_ a s.later))
theorem Mach.step0 (M : Mach α) (a : α) {s : Stp} (n : Nat) (h : s.what = 0) : M.step a s n = ((M.put a s.later (hel s.it n)).1, n + 1, ⟨-1, 0, -1, (M.put a s.later (hel s.it n)).2⟩) := by unfold Mach.step; rw [if_pos h]
theorem Mach.step1 (M : Mach α) (a : α) {s : Stp} (n : Nat) (h : s.what = 1) : M.step a s n = ((M.take a s.later).1, n, Mach.outTake (M.take a s.later)) := by unfold Mach.step; rw [if_neg (by omega), if_pos h]
theorem Mach.step2 (M : Mach α) (a : α) {s : Stp} (n : Nat) (h : s.what ≠ 0) (k : s.what ≠ 1) : M.step a s n = ((M.when_ a s.later).1, n, Mach.outWhen (M.when_ a s.later)) := by unfold Mach.step; rw [if_neg h, if_neg k]
end
/-- A time that may be. -/
def Now (t : Int) : Prop := 0 ≤ t ∧ t ≤ 1000000
/-- What is put in. -/
structure GoodPut (now : Int) (x : Hel) (n : Nat) : Prop where
  clock : Now now
  t : x.t = now
  len : 1 ≤ x.len ∧ x.len ≤ 10000
  flow : 0 ≤ x.flow ∧ x.flow ≤ 15
  band : 0 ≤ x.band ∧ x.band ≤ 7
  mark : 0 ≤ x.mark ∧ x.mark ≤ 255
  num : x.n = (n : Int)
  few : n < 200
structure GoodStp (s : Stp) (n : Nat) : Prop where
  clock : Now s.later
  put : s.what = 0 → GoodPut s.later (hel s.it n) n
/-- The method's function and its receiver, behind an interface value. -/
def Meth (q : Value) (name : String) (f : FuncId) (r : Value) : Prop := ∀ (args : Array Value) (w : World), (callMethod q name args).run Tryz.prog w = .ok (.enter f (#[r] ++ args)) w
theorem wpList_here (name : String) {P : Program} {ops : Array Oper} {rest : List Oper} {a : Act} {Q : Exit → Act → World → Prop} {w : World} {d : Option Tmp} {x : Operand} {xs : Array Operand} {ts : Array TypeId} {ty : TypeId} {p : String} {af : Array Edge}
    (h : wpList P ops Q ({ dst := d, op := .call { callee := .invoke x name, args := xs, argTypes := ts }, type := ty, pos := p, after := af, guard := none } :: rest) a w) : wpList P ops Q ({ dst := d, op := .call { callee := .invoke x name, args := xs, argTypes := ts }, type := ty, pos := p, after := af, guard := none } :: rest) a w := h
/-- A call through an interface value, at the walk. -/
theorem wpList_invoke {ops : Array Oper} {rest : List Oper} {o : Oper} {a : Act} {Q : Exit → Act → World → Prop} {w : World} {q r : Value} {name : String} {f : FuncId} {ys : List Value} {R : Ending → World → Prop} (hm : Meth q name f r) (hgd : o.guard = none) (x : Operand) (xs : Array Operand) (ts : Array TypeId)
    (ho : o.op = .call { callee := .invoke x name, args := xs, argTypes := ts }) (hq : a.eval x = q) (hys : xs.toList.map a.eval = ys) (hc : Calls Tryz.prog f (r :: ys).toArray w R)
    (hK : ∀ e w', R e w' → ∃ v, e = .returned v ∧ wpList Tryz.prog ops Q rest (a.put o.dst v) w') : wpList Tryz.prog ops Q (o :: rest) a w := by
  refine wpList_plain hgd fun K hK' => ?_
  have hrun : (execOp a.eval o).run Tryz.prog w = .ok (.enter f (r :: ys).toArray) w := by
    have h := hm (xs.map a.eval) w
    have e0 : #[r] ++ xs.map a.eval = (r :: ys).toArray := by
      apply Array.toList_inj.1
      rw [← hys]
      simp
    rw [e0] at h
    have e1 : (#[q] ++ xs.map a.eval)[0]? = some q := by rw [Array.getElem?_append_left (by simp)]; rfl
    have e2 : (#[q] ++ xs.map a.eval).extract 1 (#[q] ++ xs.map a.eval).size = xs.map a.eval := by simp
    simp only [execOp, ho, resolve, hq]
    show (do
      let some recv := (#[q] ++ xs.map a.eval)[0]? | stuck "call: a method without a receiver"
      callMethod recv name ((#[q] ++ xs.map a.eval).extract 1 (#[q] ++ xs.map a.eval).size)).run Tryz.prog w = _
    rw [e1, e2]
    exact h
  unfold Oper.wp
  rw [hrun]
  show Calls Tryz.prog f (r :: ys).toArray w _
  refine hc.mono ?_
  intro e w' h
  obtain ⟨v, rfl, h2⟩ := hK e w' h
  exact hK' _ _ h2
/-- What a side holds of memory: I, at a layout, a state, and how many were put in; F: what it may write (all of it laid behind N0). -/
structure Side {α : Type} (M : Mach α) (N0 : Nat) (β : Type) where
  I : World → β → α → Nat → Prop
  F : β → Nat → Prop
  lo : ∀ {w b a n g}, I w b a n → F b g → N0 ≤ g
  lt : ∀ {w b a n g}, I w b a n → F b g → g < w.heap.size
  norat : ∀ {w b a n g}, I w b a n → F b g → NoRatB w g
  sav : ∀ {w w' b a n} {B : Nat → Prop}, I w b a n → Sav B w w' → KeepC w w' → (∀ g, B g → N0 ≤ g ∧ ¬ F b g) → I w' b a n
section
variable {α β : Type} {M : Mach α} {N0 : Nat}
/-- w' comes of w by a step of the side's. -/
structure Side.Moved (S : Side M N0 β) (w : World) (b : β) (w' : World) (b' : β) (a' : α) (n' : Nat) : Prop where
  inv : S.I w' b' a' n'
  sav : Sav (S.F b) w w'
  new : ∀ g, S.F b' g → S.F b g ∨ w.heap.size ≤ g
theorem Side.gr (S : Side M N0 β) {w w' : World} {b : β} {a : α} {n : Nat} (h : S.I w b a n) (g : Gr w w') : S.I w' b a n := S.sav (B := fun _ => False) h (.of_gr g) (.of_gr g) fun _ h => h.elim
theorem Side.Moved.then (S : Side M N0 β) {w w' w'' : World} {b b' b'' : β} {a' a'' : α} {n' n'' : Nat} (h : S.Moved w b w' b' a' n') (k : S.Moved w' b' w'' b'' a'' n'') : S.Moved w b w'' b'' a'' n'' :=
  ⟨k.inv, h.sav.trans k.sav fun g hg => h.new g hg, fun g hg => by
    rcases k.new g hg with h1 | h1
    · exact h.new g h1
    · exact .inr (Nat.le_trans h.sav.size h1)⟩
theorem Side.Moved.gr (S : Side M N0 β) {w w' w'' : World} {b b' : β} {a' : α} {n' : Nat} (h : S.Moved w b w' b' a' n') (k : Gr w' w'') : S.Moved w b w'' b' a' n' :=
  ⟨S.gr h.inv k, h.sav.then (.of_gr k), h.new⟩
theorem Side.Moved.of_gr (S : Side M N0 β) {w w' : World} {b : β} {a : α} {n : Nat} (h : S.I w b a n) (k : Gr w w') : S.Moved w b w' b a n := ⟨S.gr h k, .of_gr k, fun _ hg => .inl hg⟩
end
/-- What both sides' methods do, on a row of their own kind E. -/
structure Acts {α β : Type} {M : Mach α} {N0 : Nat} (S : Side M N0 β) (E : TypeId) (q : Value) : Prop where
  put : ∃ f r, Meth q "Put" f r ∧ ∀ w b a n now x, S.I w b a n → GoodPut now x n → Calls Tryz.prog f #[r, .int .i64 now, x.val] w fun e w' => ∃ v b', e = .returned v ∧ RowH E w' v (M.put a now x).2 ∧ S.Moved w b w' b' (M.put a now x).1 (n + 1)
  take : ∃ f r, Meth q "Take" f r ∧ ∀ w b a n now, S.I w b a n → Now now → Calls Tryz.prog f #[r, .int .i64 now] w fun e w' => ∃ v b', e = .returned (.tuple #[(M.take a now).2.1.val, v, .bool (M.take a now).2.2.2]) ∧ RowH E w' v (M.take a now).2.2.1 ∧ S.Moved w b w' b' (M.take a now).1 n
  when_ : ∃ f r, Meth q "When" f r ∧ ∀ w b a n now, S.I w b a n → Now now → Calls Tryz.prog f #[r, .int .i64 now] w fun e w' => ∃ b', e = .returned (.tuple #[.int .i64 (M.when_ a now).2.1, .bool (M.when_ a now).2.2]) ∧ S.Moved w b w' b' (M.when_ a now).1 n
  few : ∀ {w b a n}, S.I w b a n → (M.all a).length ≤ 1000 ∧ Lens (M.all a)
  fewPut : ∀ {w b a n now x}, S.I w b a n → GoodPut now x n → (M.put a now x).2.length ≤ 1000
  fewTake : ∀ {w b a n now}, S.I w b a n → Now now → (M.take a now).2.2.1.length ≤ 1000
/-- A queue of the program's. -/
structure PSide {α β : Type} {M : Mach α} {N0 : Nat} (S : Side M N0 β) (q : Value) : Prop extends Acts S 134 q where
  len : ∃ f r, Meth q "Len" f r ∧ ∀ w b a n, S.I w b a n → Calls Tryz.prog f #[r] w fun e w' => e = .returned (.int .i64 (M.all a).length) ∧ Gr w w'
  bytes : ∃ f r, Meth q "Bytes" f r ∧ ∀ w b a n, S.I w b a n → Calls Tryz.prog f #[r] w fun e w' => e = .returned (.int .i64 (sumLen (M.all a))) ∧ Gr w w'
/-- A queue of the reference's. -/
structure RSide {α β : Type} {M : Mach α} {N0 : Nat} (S : Side M N0 β) (q : Value) : Prop extends Acts S 95 q where
  all : ∃ f r, Meth q "All" f r ∧ ∀ w b a n, S.I w b a n → Calls Tryz.prog f #[r] w fun e w' => ∃ v, e = .returned v ∧ RowH 95 w' v (M.all a) ∧ Gr w w'
end Go.Proofs.YtgifghbnpdanhaaGreatDoor
/-
  What more is asked of a queue that another one has; sides that are told by what they may write alone. No walk here.
-/
namespace Go.Proofs.YtgifghbnpdanhaaGreatDoor
open Go.RowKit

/-- What more is asked of a side: it stays as more are put in elsewhere; how much it holds (mu). -/
structure More {α β : Type} {M : Mach α} {N0 : Nat} (S : Side M N0 β) (mu : α → Nat) : Prop where
  up : ∀ {w b a n}, S.I w b a n → n < 200 → S.I w b a (n + 1)
  few : ∀ {w b a n}, S.I w b a n → (M.all a).length ≤ mu a ∧ mu a ≤ n
  put : ∀ {w b a n t x}, S.I w b a n → GoodPut t x n → mu (M.put a t x).1 + (M.put a t x).2.length ≤ mu a + 1
  take : ∀ {w b a n t}, S.I w b a n → Now t → mu (M.take a t).1 + (M.take a t).2.2.1.length + (if (M.take a t).2.2.2 = true then 1 else 0) ≤ mu a
  took : ∀ {w b a n t}, S.I w b a n → Now t → (M.take a t).2.2.2 = true → 0 ≤ (M.take a t).2.1.len ∧ (M.take a t).2.1.len ≤ 10000
  when_ : ∀ {w b a n t}, S.I w b a n → Now t → mu (M.when_ a t).1 ≤ mu a
/-- A machine that lies in another one. -/
structure Emb {α α' : Type} (M : Mach α) (U : Mach α') (f : α → α') : Prop where
  put : ∀ a t x, U.put (f a) t x = (f (M.put a t x).1, (M.put a t x).2)
  take : ∀ a t, U.take (f a) t = (f (M.take a t).1, (M.take a t).2)
  when_ : ∀ a t, U.when_ (f a) t = (f (M.when_ a t).1, (M.when_ a t).2)
  all : ∀ a, U.all (f a) = M.all a
section
variable {α α' β : Type} {M : Mach α} {U : Mach α'} {f : α → α'} {N0 : Nat} {S : Side M N0 β} {w w' : World} {b b' : β} {a a' : α} {n n' : Nat} {q : Value} {E : TypeId}
/-- The side, told by what it may write, in the other machine. -/
def Side.into (S : Side M N0 β) (U : Mach α') (f : α → α') : Side U N0 (Nat → Prop) where
  I w F c n := ∃ b a, c = f a ∧ S.I w b a n ∧ ∀ g, F g ↔ S.F b g
  F b g := b g
  lo {w F c n g} h hg := by obtain ⟨b, a, _, h1, h2⟩ := h; exact S.lo h1 ((h2 g).1 hg)
  lt {w F c n g} h hg := by obtain ⟨b, a, _, h1, h2⟩ := h; exact S.lt h1 ((h2 g).1 hg)
  norat {w F c n g} h hg := by obtain ⟨b, a, _, h1, h2⟩ := h; exact S.norat h1 ((h2 g).1 hg)
  sav {w w' F c n B} h k kc hB := by obtain ⟨b, a, h0, h1, h2⟩ := h; exact ⟨b, a, h0, S.sav h1 k kc (fun g hg => ⟨(hB g hg).1, fun e => (hB g hg).2 ((h2 g).2 e)⟩), h2⟩
theorem Side.Moved.into {F : Nat → Prop} (hF : ∀ g, F g ↔ S.F b g) (k : S.Moved w b w' b' a' n') : (S.into U f).Moved w F w' (S.F b') (f a') n' :=
  ⟨⟨b', a', rfl, k.inv, fun _ => Iff.rfl⟩, k.sav.mono (fun g hg => (hF g).2 hg), fun g hg => (k.new g hg).imp (hF g).2 id⟩
theorem Acts.into (A : Acts S E q) (e : Emb M U f) : Acts (S.into U f) E q where
  put := by
    obtain ⟨m, r, hm, h⟩ := A.put
    refine ⟨m, r, hm, fun w F c n now x hI g => ?_⟩
    obtain ⟨b, a, rfl, h1, h2⟩ := hI
    rw [e.put]
    exact (h w b a n now x h1 g).mono fun e w' ⟨v, b', k1, k2, k3⟩ => ⟨v, _, k1, k2, k3.into h2⟩
  take := by
    obtain ⟨m, r, hm, h⟩ := A.take
    refine ⟨m, r, hm, fun w F c n now hI g => ?_⟩
    obtain ⟨b, a, rfl, h1, h2⟩ := hI
    rw [e.take]
    exact (h w b a n now h1 g).mono fun e w' ⟨v, b', k1, k2, k3⟩ => ⟨v, _, k1, k2, k3.into h2⟩
  when_ := by
    obtain ⟨m, r, hm, h⟩ := A.when_
    refine ⟨m, r, hm, fun w F c n now hI g => ?_⟩
    obtain ⟨b, a, rfl, h1, h2⟩ := hI
    rw [e.when_]
    exact (h w b a n now h1 g).mono fun e w' ⟨b', k1, k3⟩ => ⟨_, k1, k3.into h2⟩
  few {w F c n} hI := by
    obtain ⟨b, a, rfl, h1, h2⟩ := hI
    rw [e.all]
    exact A.few h1
  fewPut {w F c n now x} hI g := by
    obtain ⟨b, a, rfl, h1, h2⟩ := hI
    rw [e.put]
    exact A.fewPut h1 g
  fewTake {w F c n now} hI g := by
    obtain ⟨b, a, rfl, h1, h2⟩ := hI
    rw [e.take]
    exact A.fewTake h1 g
theorem PSide.into (A : PSide S q) (e : Emb M U f) : PSide (S.into U f) q where
  toActs := A.toActs.into e
  len := by
    obtain ⟨m, r, hm, h⟩ := A.len
    refine ⟨m, r, hm, fun w F c n hI => ?_⟩
    obtain ⟨b, a, rfl, h1, h2⟩ := hI
    rw [e.all]
    exact h w b a n h1
  bytes := by
    obtain ⟨m, r, hm, h⟩ := A.bytes
    refine ⟨m, r, hm, fun w F c n hI => ?_⟩
    obtain ⟨b, a, rfl, h1, h2⟩ := hI
    rw [e.all]
    exact h w b a n h1
theorem RSide.into (A : RSide S q) (e : Emb M U f) : RSide (S.into U f) q where
  toActs := A.toActs.into e
  all := by
    obtain ⟨m, r, hm, h⟩ := A.all
    refine ⟨m, r, hm, fun w F c n hI => ?_⟩
    obtain ⟨b, a, rfl, h1, h2⟩ := hI
    rw [e.all]
    exact h w b a n h1
theorem More.into {mu : α → Nat} {mu' : α' → Nat} (A : More S mu) (e : Emb M U f) (hmu : ∀ a, mu' (f a) = mu a) : More (S.into U f) mu' where
  up {w F c n} hI hn := by
    obtain ⟨b, a, rfl, h1, h2⟩ := hI
    exact ⟨b, a, rfl, A.up h1 hn, h2⟩
  few {w F c n} hI := by
    obtain ⟨b, a, rfl, h1, h2⟩ := hI
    rw [e.all, hmu]
    exact A.few h1
  put {w F c n t x} hI g := by
    obtain ⟨b, a, rfl, h1, h2⟩ := hI
    rw [e.put, hmu, hmu]
    exact A.put h1 g
  take {w F c n t} hI g := by
    obtain ⟨b, a, rfl, h1, h2⟩ := hI
    rw [e.take, hmu, hmu]
    exact A.take h1 g
  took {w F c n t} hI g h := by
    obtain ⟨b, a, rfl, h1, h2⟩ := hI
    rw [e.take] at h ⊢
    exact A.took h1 g h
  when_ {w F c n t} hI g := by
    obtain ⟨b, a, rfl, h1, h2⟩ := hI
    rw [e.when_, hmu, hmu]
    exact A.when_ h1 g
end
end Go.Proofs.YtgifghbnpdanhaaGreatDoor

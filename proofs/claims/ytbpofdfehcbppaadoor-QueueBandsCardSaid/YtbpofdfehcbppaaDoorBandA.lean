/-
  Queues the first of which goes first: plainly, and how they lie. Sides that are told by what they may write alone.
-/
import Derived.Test.YtbpofdfehcbppaaDoorPlayC
import Derived.Test.YtbpofdfehcbppaaDoorApp
namespace Go.Proofs.YtbpofdfehcbppaaDoor
open Go.RowKit

/-- What more is asked of a side: it stays as more are put in elsewhere; how much it holds (mu). -/
structure More {α β : Type} {M : Mach α} {N0 : Nat} (S : Side M N0 β) (mu : α → Nat) : Prop where
  up : ∀ {w b a n}, S.I w b a n → n < 200 → S.I w b a (n + 1)
  few : ∀ {w b a n}, S.I w b a n → (M.all a).length ≤ mu a ∧ mu a ≤ n
  put : ∀ {w b a n t x}, S.I w b a n → GoodPut t x n → mu (M.put a t x).1 + (M.put a t x).2.length ≤ mu a + 1
  take : ∀ {w b a n t}, S.I w b a n → Now t → mu (M.take a t).1 + (M.take a t).2.2.1.length ≤ mu a
  when_ : ∀ {w b a n t}, S.I w b a n → Now t → mu (M.when_ a t).1 ≤ mu a
/-- A machine that lies in another one. -/
structure Emb {α α' : Type} (M : Mach α) (U : Mach α') (f : α → α') : Prop where
  put : ∀ a t x, U.put (f a) t x = (f (M.put a t x).1, (M.put a t x).2)
  take : ∀ a t, U.take (f a) t = (f (M.take a t).1, (M.take a t).2)
  when_ : ∀ a t, U.when_ (f a) t = (f (M.when_ a t).1, (M.when_ a t).2)
  all : ∀ a, U.all (f a) = M.all a
section
variable {α α' β : Type} {M : Mach α} {U : Mach α'} {f : α → α'} {N0 : Nat} {S : Side M N0 β} {w w' : World} {b b' : β} {a a' : α} {n n' : Nat} {q : Value} {E : TypeId}
/-- The side, told by what it may write, in the other machine. -/
def Side.into (S : Side M N0 β) (U : Mach α') (f : α → α') : Side U N0 (Nat → Prop) where
  I w F c n := ∃ b a, c = f a ∧ S.I w b a n ∧ ∀ g, F g ↔ S.F b g
  F b g := b g
  lo {w F c n g} h hg := by obtain ⟨b, a, _, h1, h2⟩ := h; exact S.lo h1 ((h2 g).1 hg)
  lt {w F c n g} h hg := by obtain ⟨b, a, _, h1, h2⟩ := h; exact S.lt h1 ((h2 g).1 hg)
  sav {w w' F c n B} h k hB := by obtain ⟨b, a, h0, h1, h2⟩ := h; exact ⟨b, a, h0, S.sav h1 k (fun g hg => ⟨(hB g hg).1, fun e => (hB g hg).2 ((h2 g).2 e)⟩), h2⟩
theorem Side.Moved.into {F : Nat → Prop} (hF : ∀ g, F g ↔ S.F b g) (k : S.Moved w b w' b' a' n') : (S.into U f).Moved w F w' (S.F b') (f a') n' :=
  ⟨⟨b', a', rfl, k.inv, fun _ => Iff.rfl⟩, k.sav.mono (fun g hg => (hF g).2 hg), fun g hg => (k.new g hg).imp (hF g).2 id⟩
theorem Acts.into (A : Acts S E q) (e : Emb M U f) : Acts (S.into U f) E q where
  put := by
    obtain ⟨m, r, hm, h⟩ := A.put
    refine ⟨m, r, hm, fun w F c n now x hI g => ?_⟩
    obtain ⟨b, a, rfl, h1, h2⟩ := hI
    rw [e.put]
    exact (h w b a n now x h1 g).mono fun e w' ⟨v, b', k1, k2, k3⟩ => ⟨v, _, k1, k2, k3.into h2⟩
  take := by
    obtain ⟨m, r, hm, h⟩ := A.take
    refine ⟨m, r, hm, fun w F c n now hI g => ?_⟩
    obtain ⟨b, a, rfl, h1, h2⟩ := hI
    rw [e.take]
    exact (h w b a n now h1 g).mono fun e w' ⟨v, b', k1, k2, k3⟩ => ⟨v, _, k1, k2, k3.into h2⟩
  when_ := by
    obtain ⟨m, r, hm, h⟩ := A.when_
    refine ⟨m, r, hm, fun w F c n now hI g => ?_⟩
    obtain ⟨b, a, rfl, h1, h2⟩ := hI
    rw [e.when_]
    exact (h w b a n now h1 g).mono fun e w' ⟨b', k1, k3⟩ => ⟨_, k1, k3.into h2⟩
  few {w F c n} hI := by
    obtain ⟨b, a, rfl, h1, h2⟩ := hI
    rw [e.all]
    exact A.few h1
  fewPut {w F c n now x} hI g := by
    obtain ⟨b, a, rfl, h1, h2⟩ := hI
    rw [e.put]
    exact A.fewPut h1 g
  fewTake {w F c n now} hI g := by
    obtain ⟨b, a, rfl, h1, h2⟩ := hI
    rw [e.take]
    exact A.fewTake h1 g
theorem PSide.into (A : PSide S q) (e : Emb M U f) : PSide (S.into U f) q where
  toActs := A.toActs.into e
  len := by
    obtain ⟨m, r, hm, h⟩ := A.len
    refine ⟨m, r, hm, fun w F c n hI => ?_⟩
    obtain ⟨b, a, rfl, h1, h2⟩ := hI
    rw [e.all]
    exact h w b a n h1
  bytes := by
    obtain ⟨m, r, hm, h⟩ := A.bytes
    refine ⟨m, r, hm, fun w F c n hI => ?_⟩
    obtain ⟨b, a, rfl, h1, h2⟩ := hI
    rw [e.all]
    exact h w b a n h1
theorem RSide.into (A : RSide S q) (e : Emb M U f) : RSide (S.into U f) q where
  toActs := A.toActs.into e
  all := by
    obtain ⟨m, r, hm, h⟩ := A.all
    refine ⟨m, r, hm, fun w F c n hI => ?_⟩
    obtain ⟨b, a, rfl, h1, h2⟩ := hI
    rw [e.all]
    exact h w b a n h1
theorem More.into {mu : α → Nat} {mu' : α' → Nat} (A : More S mu) (e : Emb M U f) (hmu : ∀ a, mu' (f a) = mu a) : More (S.into U f) mu' where
  up {w F c n} hI hn := by
    obtain ⟨b, a, rfl, h1, h2⟩ := hI
    exact ⟨b, a, rfl, A.up h1 hn, h2⟩
  few {w F c n} hI := by
    obtain ⟨b, a, rfl, h1, h2⟩ := hI
    rw [e.all, hmu]
    exact A.few h1
  put {w F c n t x} hI g := by
    obtain ⟨b, a, rfl, h1, h2⟩ := hI
    rw [e.put, hmu, hmu]
    exact A.put h1 g
  take {w F c n t} hI g := by
    obtain ⟨b, a, rfl, h1, h2⟩ := hI
    rw [e.take, hmu, hmu]
    exact A.take h1 g
  when_ {w F c n t} hI g := by
    obtain ⟨b, a, rfl, h1, h2⟩ := hI
    rw [e.when_, hmu, hmu]
    exact A.when_ h1 g
end
section
variable {α : Type} (U : Mach α)
/-- Take of several. -/
def takeL (t : Int) : List α → List α × Hel × List Hel × Bool
  | [] => ([], .zero, [], false)
  | a :: r => if (U.take a t).2.2.2 = true then ((U.take a t).1 :: r, (U.take a t).2.1, (U.take a t).2.2.1, true)
    else ((U.take a t).1 :: (takeL t r).1, (takeL t r).2.1, (U.take a t).2.2.1 ++ (takeL t r).2.2.1, (takeL t r).2.2.2)
/-- When of several, one being found so far. -/
def whenL (t : Int) : List α → Int → Bool → List α × Int × Bool
  | [], at_, sm => ([], at_, sm)
  | a :: r, at_, sm => if (U.when_ a t).2.2 = true ∧ (sm = false ∨ (U.when_ a t).2.1 < at_) then ((U.when_ a t).1 :: (whenL t r (U.when_ a t).2.1 true).1, (whenL t r (U.when_ a t).2.1 true).2)
    else ((U.when_ a t).1 :: (whenL t r at_ sm).1, (whenL t r at_ sm).2)
/-- Which one a packet is put into. -/
def bandOf (k : Nat) (x : Hel) : Nat := min x.band.toNat (k - 1)
def bands (dfl : α) : Mach (List α) where
  put l t x := (l.set (bandOf l.length x) (U.put (l.getD (bandOf l.length x) dfl) t x).1, (U.put (l.getD (bandOf l.length x) dfl) t x).2)
  take l t := takeL U t l
  when_ l t := whenL U t l 0 false
  all l := l.flatMap U.all
def muL (mu : α → Nat) : List α → Nat
  | [] => 0
  | a :: r => mu a + muL mu r
theorem muL_app (mu : α → Nat) (l r : List α) : muL mu (l ++ r) = muL mu l + muL mu r := by
  induction l with
  | nil => simp [muL]
  | cons a l ih => simp [muL, ih, Nat.add_assoc]
theorem takeL_len (t : Int) (l : List α) : (takeL U t l).1.length = l.length := by
  induction l with
  | nil => rfl
  | cons a r ih =>
    rw [takeL]
    split
    · rfl
    · simp [ih]
theorem whenL_len (t : Int) (l : List α) : ∀ (x : Int) (s : Bool), (whenL U t l x s).1.length = l.length := by
  induction l with
  | nil => intro x s; rfl
  | cons a r ih =>
    intro x s
    rw [whenL]
    split <;> simp [ih]
theorem takeL_mu (mu : α → Nat) (t : Int) (l : List α) (h : ∀ a ∈ l, mu (U.take a t).1 + (U.take a t).2.2.1.length ≤ mu a) : muL mu (takeL U t l).1 + (takeL U t l).2.2.1.length ≤ muL mu l := by
  induction l with
  | nil => exact Nat.le_refl _
  | cons a r ih =>
    have h1 := h a (List.mem_cons_self ..)
    have h2 := ih fun b hb => h b (List.mem_cons_of_mem _ hb)
    rw [takeL]
    split
    · simp only [muL]; omega
    · simp only [muL, List.length_append]; omega
theorem whenL_mu (mu : α → Nat) (t : Int) (l : List α) (h : ∀ a ∈ l, mu (U.when_ a t).1 ≤ mu a) : ∀ (x : Int) (s : Bool), muL mu (whenL U t l x s).1 ≤ muL mu l := by
  induction l with
  | nil => intro x s; exact Nat.le_refl _
  | cons a r ih =>
    intro x s
    have h1 := h a (List.mem_cons_self ..)
    have h2 := ih fun b hb => h b (List.mem_cons_of_mem _ hb)
    rw [whenL]
    split
    · have h3 := h2 (U.when_ a t).2.1 true
      simp only [muL]; omega
    · have h3 := h2 x s
      simp only [muL]; omega
theorem muL_set (mu : α → Nat) (l : List α) : ∀ (i : Nat) (a b : α), l[i]? = some a → muL mu (l.set i b) + mu a = muL mu l + mu b := by
  induction l with
  | nil => intro i a b h; simp at h
  | cons c r ih =>
    intro i a b h
    cases i with
    | zero => simp at h; subst h; simp [muL]; omega
    | succ i =>
      simp at h
      have := ih i a b h
      simp only [List.set_cons_succ, muL]; omega
theorem muL_all (mu : α → Nat) (l : List α) (h : ∀ a ∈ l, (U.all a).length ≤ mu a) : (l.flatMap U.all).length ≤ muL mu l := by
  induction l with
  | nil => simp [muL]
  | cons a r ih =>
    have h1 := h a (List.mem_cons_self ..)
    have h2 := ih fun b hb => h b (List.mem_cons_of_mem _ hb)
    simp only [List.flatMap_cons, List.length_append, muL]
    omega
end
/-- How several queues lie: at p a slice of them, the i-th with its own. -/
structure BD {α : Type} {U : Mach α} {N0 : Nat} (k : Nat) (q : Nat → Value) (S : Nat → Side U N0 (Nat → Prop)) (mu : α → Nat) (p ob off cap : Nat) (w : World) (Fs : Nat → Nat → Prop) (l : List α) (n : Nat) : Prop where
  len : l.length = k
  pos : 0 < k ∧ k ≤ 8
  cp : k ≤ cap
  cell : w.cell? ⟨p, 0, none⟩ = some (.slice (some ⟨ob, off, none⟩) k cap)
  el : ∀ i, i < k → w.cell? ⟨ob, off + i, none⟩ = some (q i)
  sub : ∀ i a, l[i]? = some a → (S i).I w (Fs i) a n
  apart : ∀ i j g, i < k → j < k → i ≠ j → Fs i g → ¬ Fs j g
  off_ : ∀ i, i < k → ¬ Fs i p ∧ ¬ Fs i ob
  lo : N0 ≤ p ∧ N0 ≤ ob
  mass : muL mu l ≤ n
  n : n ≤ 200
/-- What they may write. -/
def BF (k p ob : Nat) (Fs : Nat → Nat → Prop) (g : Nat) : Prop := g = p ∨ g = ob ∨ ∃ i, i < k ∧ Fs i g
def updF (Fs : Nat → Nat → Prop) (i : Nat) (F : Nat → Prop) : Nat → Nat → Prop := fun j => if j = i then F else Fs j
theorem updF_at (Fs : Nat → Nat → Prop) (i : Nat) (F : Nat → Prop) : updF Fs i F i = F := by simp [updF]
theorem updF_ne (Fs : Nat → Nat → Prop) {i j : Nat} (F : Nat → Prop) (h : j ≠ i) : updF Fs i F j = Fs j := by simp [updF, h]
section
variable {α : Type} {U : Mach α} {N0 : Nat} {k : Nat} {q : Nat → Value} {S : Nat → Side U N0 (Nat → Prop)} {mu : α → Nat} {p ob off cap : Nat} {w w' : World} {Fs : Nat → Nat → Prop} {F' : Nat → Prop} {l : List α} {n n' : Nat} {a a' : α} {i : Nat}
theorem BD.lt (h : BD k q S mu p ob off cap w Fs l n) : p < w.heap.size ∧ ob < w.heap.size := ⟨cell_lt h.cell, cell_lt (h.el 0 h.pos.1)⟩
theorem BD.flo (hF : ∀ i b g, (S i).F b g ↔ b g) (h : BD k q S mu p ob off cap w Fs l n) {g : Nat} (hg : BF k p ob Fs g) : N0 ≤ g := by
  rcases hg with e | e | ⟨i, hi, e⟩
  · rw [e]; exact h.lo.1
  · rw [e]; exact h.lo.2
  · have hl : i < l.length := by rw [h.len]; exact hi
    exact (S i).lo (h.sub i _ (List.getElem?_eq_getElem hl)) ((hF i _ g).2 e)
theorem BD.flt (hF : ∀ i b g, (S i).F b g ↔ b g) (h : BD k q S mu p ob off cap w Fs l n) {g : Nat} (hg : BF k p ob Fs g) : g < w.heap.size := by
  rcases hg with e | e | ⟨i, hi, e⟩
  · rw [e]; exact h.lt.1
  · rw [e]; exact h.lt.2
  · have hl : i < l.length := by rw [h.len]; exact hi
    exact (S i).lt (h.sub i _ (List.getElem?_eq_getElem hl)) ((hF i _ g).2 e)
theorem BD.sav (hF : ∀ i b g, (S i).F b g ↔ b g) (h : BD k q S mu p ob off cap w Fs l n) {B : Nat → Prop} (g : Sav B w w') (hB : ∀ g, B g → N0 ≤ g ∧ ¬ BF k p ob Fs g) : BD k q S mu p ob off cap w' Fs l n :=
  ⟨h.len, h.pos, h.cp, g.cell h.cell (fun e => (hB _ e).2 (.inl rfl)), fun i hi => g.cell (h.el i hi) (fun e => (hB _ e).2 (.inr (.inl rfl))), fun i a ha => (S i).sav (h.sub i a ha) g (fun x hx => ⟨(hB x hx).1, fun e => (hB x hx).2 (.inr (.inr ⟨i, by rw [← h.len]; exact (List.getElem?_eq_some_iff.1 ha).1, (hF i _ x).1 e⟩))⟩), h.apart, h.off_, h.lo, h.mass, h.n⟩
theorem BD.gr (hF : ∀ i b g, (S i).F b g ↔ b g) (h : BD k q S mu p ob off cap w Fs l n) (g : Gr w w') : BD k q S mu p ob off cap w' Fs l n := h.sav hF (B := fun _ => False) (.of_gr g) (fun _ h => h.elim)
/-- One of them was moved. -/
theorem BD.step (hF : ∀ i b g, (S i).F b g ↔ b g) (h : BD k q S mu p ob off cap w Fs l n) (hi : l[i]? = some a) (m : (S i).Moved w (Fs i) w' F' a' n) (hm : muL mu l + mu a' ≤ mu a + n) :
    BD k q S mu p ob off cap w' (updF Fs i F') (l.set i a') n ∧ Sav (BF k p ob Fs) w w' ∧ ∀ g, BF k p ob (updF Fs i F') g → BF k p ob Fs g ∨ w.heap.size ≤ g := by
  have hil : i < l.length := (List.getElem?_eq_some_iff.1 hi).1
  have hik : i < k := by rw [← h.len]; exact hil
  have hsv : Sav (Fs i) w w' := m.sav.mono fun g hg => (hF i _ g).1 hg
  have hne : ∀ g, F' g → Fs i g ∨ w.heap.size ≤ g := fun g hg => (m.new g ((hF i _ g).2 hg)).imp (hF i _ g).1 id
  have hlt := h.lt
  have hslt : ∀ j g, j < k → Fs j g → g < w.heap.size := fun j g hj hg => h.flt hF (.inr (.inr ⟨j, hj, hg⟩))
  refine ⟨⟨by rw [List.length_set]; exact h.len, h.pos, h.cp, hsv.cell h.cell (h.off_ i hik).1, fun j hj => hsv.cell (h.el j hj) (h.off_ i hik).2, fun j b hb => ?_, fun j1 j2 g h1 h2 h3 h4 h5 => ?_, fun j hj => ?_, h.lo, ?_, h.n⟩, hsv.mono fun g hg => .inr (.inr ⟨i, hik, hg⟩), fun g hg => ?_⟩
  · by_cases e : j = i
    · subst e
      rw [List.getElem?_set_self hil] at hb
      obtain rfl := Option.some.inj hb
      rw [updF_at]
      exact m.inv
    · rw [List.getElem?_set_ne (fun e' => e e'.symm)] at hb
      have hjk : j < k := by rw [← h.len]; exact (List.getElem?_eq_some_iff.1 hb).1
      rw [updF_ne _ _ e]
      exact (S j).sav (h.sub j b hb) hsv (fun g hg => ⟨h.flo hF (.inr (.inr ⟨i, hik, hg⟩)), fun e' => h.apart i j g hik hjk (fun e'' => e e''.symm) hg ((hF j _ g).1 e')⟩)
  · by_cases e1 : j1 = i
    · subst e1
      rw [updF_at] at h4
      rw [updF_ne _ _ (fun e => h3 e.symm)] at h5
      rcases hne g h4 with h6 | h6
      · exact h.apart j1 j2 g h1 h2 h3 h6 h5
      · have := hslt j2 g h2 h5; omega
    · rw [updF_ne _ _ e1] at h4
      by_cases e2 : j2 = i
      · subst e2
        rw [updF_at] at h5
        rcases hne g h5 with h6 | h6
        · exact h.apart j1 j2 g h1 h2 h3 h4 h6
        · have := hslt j1 g h1 h4; omega
      · rw [updF_ne _ _ e2] at h5
        exact h.apart j1 j2 g h1 h2 h3 h4 h5
  · by_cases e : j = i
    · subst e
      rw [updF_at]
      exact ⟨fun e => (hne _ e).elim (h.off_ j hj).1 (fun h1 => by omega), fun e => (hne _ e).elim (h.off_ j hj).2 (fun h1 => by omega)⟩
    · rw [updF_ne _ _ e]
      exact h.off_ j hj
  · have := muL_set mu l i a a' hi
    omega
  · rcases hg with e | e | ⟨j, hj, e⟩
    · exact .inl (.inl e)
    · exact .inl (.inr (.inl e))
    · by_cases e1 : j = i
      · subst e1
        rw [updF_at] at e
        exact (hne g e).imp (fun h1 => .inr (.inr ⟨j, hj, h1⟩)) id
      · rw [updF_ne _ _ e1] at e
        exact .inl (.inr (.inr ⟨j, hj, e⟩))
/-- One more was put in, in one of them. -/
theorem BD.more (hU : ∀ i, i < k → More (S i) mu) (h : BD k q S mu p ob off cap w Fs l n) (hn : n < 200) : BD k q S mu p ob off cap w Fs l (n + 1) :=
  ⟨h.len, h.pos, h.cp, h.cell, h.el, fun i a ha => (hU i (by rw [← h.len]; exact (List.getElem?_eq_some_iff.1 ha).1)).up (h.sub i a ha) hn, h.apart, h.off_, h.lo, Nat.le_succ_of_le h.mass, hn⟩
end
end Go.Proofs.YtbpofdfehcbppaaDoor

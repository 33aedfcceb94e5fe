/-
  millracelaw.ItemTexts, walked: true at every input.
-/
import Derived.Test.YtoblcnngahncoaaDoorTxtF
namespace Go.Proofs.YtoblcnngahncoaaDoor
open Go.RowKit

set_option maxRecDepth 100000 in
set_option maxHeartbeats 8000000 in
theorem itemTexts_any {v : Value} {l : List Itm} (w : World) (hx : Items w v l) (hb : ∀ x ∈ l, x.Bds) (ht : Tab w) :
    Calls Tryd.prog 3 #[v] w fun e w' => e = .returned (.bool true) ∧ Gr w w' := by
  have HX := Lib.hid hx
  have HB := Lib.hid hb
  have HT := Lib.hid ht
  obtain ⟨la, lc, rfl, _⟩ := hx.any
  clear hx hb ht
  by_cases hn : l.length ≤ 150
  · have HN := Lib.hid hn
    have h1 : ¬ (150 : Int) < (l.length : Int) := by omega
    go_enter Tryd.func3, Tryd.ntmps3
    go_wp2_with (first
      | (go_at_call 4; refine (text_any w HX.out HN.out HB.out HT.out).mono ?_; rintro e w1 ⟨rfl, hg⟩; have HG := Lib.hid hg; clear hg; rw [show (⟨(textOf l).toArray⟩ : ByteArray) = txS l from rfl])
      | (go_at_call 5; refine (itemText_any w1 (HX.out.gr HG.out) HN.out HB.out (HT.out.gr HG.out)).mono ?_; rintro e w2 ⟨rfl, hg⟩; have HG2 := Lib.hid (HG.out.trans hg); clear hg))
    all_goals go_ret
    all_goals exact ⟨rfl, HG2.out⟩
  · have h1 : (150 : Int) < (l.length : Int) := by omega
    go_enter Tryd.func3, Tryd.ntmps3
    go_wp2
    go_ret
    exact ⟨rfl, Gr.refl w⟩
theorem itemTexts_walk {v : Value} {l : List Itm} (w : World) (ht : Tab w) (hx : Items w v l) (hb : ∀ i, i < l.length → (l.getD i .zero).bd) :
    Calls Tryd.prog 3 #[v] w fun e w' => e = .returned (.bool true) ∧ Gr w w' := itemTexts_any w hx (items_bds hb) ht
end Go.Proofs.YtoblcnngahncoaaDoor

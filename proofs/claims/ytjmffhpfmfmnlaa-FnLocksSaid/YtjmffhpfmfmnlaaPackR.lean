/- A cell that is put back as it was: nothing has turned. No condition. -/
import Derived.Test.YtjmffhpfmfmnlaaApp
namespace Go.Proofs.Ytjmffhpfmfmnlaa
open Go.RowKit
set_option linter.unusedVariables false
theorem cellKeep {B b o : Nat} {w1 w2 : World} {v : Value} (hb : Below B w1 w2) (h : w1.cell? ⟨b, o, none⟩ = some v) (hlt : b < B) : w2.cell? ⟨b, o, none⟩ = some v := by rw [hb.cell (p := ⟨b, o, none⟩) hlt]; exact h
theorem frozenKeep {B b o : Nat} {w1 w2 : World} {v : Bool} (hb : Below B w1 w2) (h : w1.frozen? ⟨b, o, none⟩ = v) (hlt : b < B) : w2.frozen? ⟨b, o, none⟩ = v := by rw [hb.frozen (p := ⟨b, o, none⟩) hlt]; exact h
theorem heap_setCell_at (w : World) (g i : Nat) (x : Value) : (w.setCell ⟨g, i, none⟩ x).heap[g]? = (w.heap[g]?).map fun
      | .cells c elem frozen => .cells (c.setIfInBounds i x) elem frozen
      | o => o := by
  unfold World.setCell
  simp only [Array.getElem?_modify, if_true]
  cases w.heap[g]? with
  | none => rfl
  | some o => cases o <;> rfl
theorem heap_put_back {w : World} {g i : Nat} {x y : Value} (h : w.cell? ⟨g, i, none⟩ = some y) {w2 : World} (hb : w2.heap[g]? = (w.setCell ⟨g, i, none⟩ x).heap[g]?) : (w2.setCell ⟨g, i, none⟩ y).heap[g]? = w.heap[g]? := by
  rw [heap_setCell_at, hb, heap_setCell_at]
  unfold World.cell? at h
  cases hg : w.heap[g]? with
  | none => rw [show (⟨g, i, none⟩ : Addr).block = g from rfl, hg] at h; cases h
  | some o =>
    rw [show (⟨g, i, none⟩ : Addr).block = g from rfl, hg] at h
    cases o <;> simp at h ⊢
    rename_i c e f
    apply Array.ext_getElem?
    intro j
    rw [Array.getElem?_setIfInBounds]
    by_cases hij : i = j
    · subst hij
      have hlt := (Array.getElem?_eq_some_iff.1 h).1
      rw [if_pos rfl, if_pos hlt, h]
    · rw [if_neg hij]
/-- Behind a store, a call that turns no old memory, and a store that puts the cell back: nothing old has turned. -/
theorem below_put_back {B g i : Nat} {w w2 : World} {x y : Value} (h : w.cell? ⟨g, i, none⟩ = some y) (hb : Below B (w.setCell ⟨g, i, none⟩ x) w2) (hg : g < B) : Below B w (w2.setCell ⟨g, i, none⟩ y) := by
  refine ⟨hb.os, hb.tape, hb.output, ?_, fun k hk => ?_⟩
  · have := hb.size; simp only [World.setCell, Array.size_modify] at this ⊢; exact this
  · by_cases e : k = g
    · subst e; exact heap_put_back h (hb.block k hk)
    · rw [Below.heap_setCell w2 ⟨g, i, none⟩ y k e, hb.block k hk, Below.heap_setCell w ⟨g, i, none⟩ x k e]
end Go.Proofs.Ytjmffhpfmfmnlaa

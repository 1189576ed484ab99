/- Rows given by a function, made, read and stored. No condition. -/
import Derived.Test.YtjfppjhlkeopnaaBits
import Derived.Test.YtjfppjhlkeopnaaApp
import Derived.Test.YtjfppjhlkeopnaaKeep
import Derived.Deep.RegionHeld3
namespace Go.Proofs.Ytjfppjhlkeopnaa
open Go.RowKit
set_option linter.unusedVariables false
def rowG {α : Type} (n : Nat) (u : Nat → α) : List α := (List.range n).map u
theorem rowG_len {α : Type} (n : Nat) (u : Nat → α) : (rowG n u).length = n := by simp [rowG]
theorem rowG_at {α : Type} (n : Nat) (u : Nat → α) {k : Nat} (h : k < n) : (rowG n u)[k]'(by rw [rowG_len]; exact h) = u k := by simp [rowG]
theorem rowG_set {α : Type} (n : Nat) (u : Nat → α) (k : Nat) (v : α) : (rowG n u).set k v = rowG n (fun j => if j = k then v else u j) := by
  apply List.ext_getElem
  · simp [rowG]
  · intro i h1 h2
    simp only [rowG, List.getElem_set, List.getElem_map, List.getElem_range]
    by_cases e : k = i
    · subst e; simp
    · rw [if_neg e, if_neg (fun h => e h.symm)]
theorem rowG_congr {α : Type} {n : Nat} {u v : Nat → α} (h : ∀ j, j < n → u j = v j) : rowG n u = rowG n v := by
  apply List.ext_getElem
  · simp [rowG]
  · intro i h1 h2; simp [rowG] at h1 ⊢; exact h i h1
theorem rowG_rep {α : Type} (n : Nat) (x : α) : rowG n (fun _ => x) = List.replicate n x := by
  apply List.ext_getElem
  · simp [rowG]
  · intro i h1 h2; simp [rowG]
theorem repV {α : Type} (enc : α → List Value) (x : α) (v : Value) (h : enc x = [v]) : ∀ n : Nat, List.replicate n v = (List.replicate n x).flatMap enc
  | 0 => rfl
  | n + 1 => by rw [List.replicate_succ, List.replicate_succ, List.flatMap_cons, ← repV enc x v h n, h]; rfl
theorem ownG_made {α : Type} {enc : α → List Value} {w : World} {base : Nat} {v : Value} {n : Nat} {T : TypeId} (x : α) (z : Value) (hx : enc x = [z]) (hz : z.cells = #[z]) (h : w.ownsRow base T 1 v n (madeCells z.cells (n * 1)).toList) : Own w base T 1 enc v (rowG n (fun _ => x)) := by
  rw [hz, toList_madeCells_one, Nat.mul_one, repV enc x z hx] at h
  unfold Own
  rw [rowG_rep, List.length_replicate]
  exact h
theorem ownG_cell {α : Type} {enc : α → List Value} {w : World} {base g N : Nat} {T : TypeId} {u : Nat → α} (he : ∀ x, (enc x).length = 1) (h : Own w base T 1 enc (.slice (some ⟨g, 0, none⟩) N N) (rowG N u)) {i : Nat} (hi : i < N) {z : Value} (hz : enc (u i) = [z]) : w.cell? ⟨g, i, none⟩ = some z ∧ w.frozen? ⟨g, i, none⟩ = false := by
  have hoc := Own.cells (i := i) (j := 0) (u := z) (cap := N) he (by rw [rowG_len]; exact h) (by rw [rowG_len]; exact hi) (by rw [rowG_at _ _ hi, hz]; rfl)
  simpa using hoc
theorem ownG_store {α : Type} {enc : α → List Value} {w : World} {base g N : Nat} {T : TypeId} {u : Nat → α} (he : ∀ x, (enc x).length = 1) (h : Own w base T 1 enc (.slice (some ⟨g, 0, none⟩) N N) (rowG N u)) {i : Nat} (hi : i < N) {x : α} {z : Value} (hz : enc x = [z]) : Own (w.setCell ⟨g, i, none⟩ z) base T 1 enc (.slice (some ⟨g, 0, none⟩) N N) (rowG N (fun j => if j = i then x else u j)) := by
  have := Own.setRow (i := i) (cap := N) he (by rw [rowG_len]; exact h) (by rw [rowG_len]; exact hi) x
  rw [rowG_len, rowG_set, hz] at this
  simpa [storeRow] using this
def valAt (w : World) (a : Addr) : Value := (w.cell? a).getD (.bool false)
theorem valAt_of {w : World} {a : Addr} {v : Value} (h : w.cell? a = some v) : w.cell? a = some (valAt w a) := by unfold valAt; rw [h]; rfl
theorem below_store {B b o : Nat} {w1 w2 : World} {v : Value} (h : Below B w1 w2) (hb : B ≤ b) : Below B w1 (w2.setCell ⟨b, o, none⟩ v) := h.setCell (p := ⟨b, o, none⟩) hb _
theorem size_store {b o : Nat} {w : World} {v : Value} : (w.setCell ⟨b, o, none⟩ v).heap.size = w.heap.size := by simp [World.setCell]
end Go.Proofs.Ytjfppjhlkeopnaa

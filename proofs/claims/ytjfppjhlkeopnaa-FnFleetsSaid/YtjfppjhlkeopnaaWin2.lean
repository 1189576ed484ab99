/- Windows of the minutes that a closure accepts: the program. No condition. -/
import Derived.Test.YtjfppjhlkeopnaaWinL
namespace Go.Proofs.Ytjfppjhlkeopnaa
open Go.RowKit
set_option linter.unusedVariables false
theorem Own.slot {α : Type} {w : World} {base sz N : Nat} {T : TypeId} {enc : α → List Value} {v : Value} {xs : List α} (h : Own w base T sz enc v xs) (hl : xs.length = N) (h0 : 0 < N) : ∃ g cap, v = .slice (some ⟨g, 0, none⟩) N cap ∧ base ≤ g ∧ g < w.heap.size ∧ N ≤ cap ∧ cap ≤ 9223372036854775807 := by
  rcases Own.cases h with ⟨_, rfl⟩ | ⟨g, cap, rfl, h1, h2, h3, h4⟩
  · simp at hl; omega
  · unfold maxLen at h4
    exact ⟨g, cap, by rw [hl], h1, h2, by omega, by omega⟩
theorem ownW_fin {w : World} {base g cap N l : Nat} {T : TypeId} {xs : List WindowD} (h : Own w base T 2 WindowD.enc (.slice (some ⟨g, 0, none⟩) N cap) xs) (hl : xs.length = N) (hi : l < N) : w.cell? ⟨g, l * 2 + 1, none⟩ = some (.int .i64 (xs.getD l default).fin) ∧ w.frozen? ⟨g, l * 2 + 1, none⟩ = false := by
  subst hl
  rw [getD_at hi]
  exact Own.cells (i := l) (j := 1) WindowD.enc_len h hi rfl
theorem ownW_set {w : World} {base g cap N l : Nat} {T : TypeId} {xs : List WindowD} (h : Own w base T 2 WindowD.enc (.slice (some ⟨g, 0, none⟩) N cap) xs) (hl : xs.length = N) (hi : l + 1 = N) (m : Int) : Own (w.setCell ⟨g, l * 2 + 1, none⟩ (.int .i64 m)) base T 2 WindowD.enc (.slice (some ⟨g, 0, none⟩) N cap) (setLast xs m) := by
  subst hl
  rw [setLast_eq hi]
  exact ownSetFin h (by omega) m
end Go.Proofs.Ytjfppjhlkeopnaa

/- Plain words on lists for loops: 'all' from a place on, the first hit, counting. No condition. -/
import Derived.Test.YtjfppjhlkeopnaaMem
namespace Go.Proofs.Ytjfppjhlkeopnaa
section
variable {α : Type}
theorem all_step {f : α → Bool} {xs : List α} {k : Nat} {b : Bool} (h : (xs.drop k).all f = b) (hlt : k < xs.length) (hf : f xs[k] = true) : (xs.drop (k + 1)).all f = b := by
  rw [List.drop_eq_getElem_cons hlt, List.all_cons, hf, Bool.true_and] at h; exact h
theorem all_bad {f : α → Bool} {xs : List α} {k : Nat} (hlt : k < xs.length) (hf : f xs[k] = false) : xs.all f = false := by
  rw [List.all_eq_false]; exact ⟨xs[k], List.getElem_mem hlt, by simp [hf]⟩
theorem all_end {f : α → Bool} {xs : List α} {b : Bool} (h : (xs.drop xs.length).all f = b) : b = true := by
  rw [List.drop_length] at h; simpa using h.symm
theorem foldl_step {β : Type} {f : β → α → β} {xs : List α} {k : Nat} {s r : β} (h : (xs.drop k).foldl f s = r) (hlt : k < xs.length) : (xs.drop (k + 1)).foldl f (f s xs[k]) = r := by
  rw [List.drop_eq_getElem_cons hlt] at h; exact h
theorem foldl_end {β : Type} {f : β → α → β} {xs : List α} {s r : β} (h : (xs.drop xs.length).foldl f s = r) : s = r := by
  rw [List.drop_length] at h; exact h
theorem drop_cons {xs : List α} {k : Nat} (hlt : k < xs.length) : xs.drop k = xs[k] :: xs.drop (k + 1) := List.drop_eq_getElem_cons hlt
end
theorem ch1 (a : Bool) : (a = true) ∨ (a = false) := by
  cases a <;> simp
theorem ch2 (a b : Bool) : (a = true ∧ b = true) ∨ (a = false) ∨ (a = true ∧ b = false) := by
  cases a <;> cases b <;> simp
theorem ch3 (a b c : Bool) : (a = true ∧ b = true ∧ c = true) ∨ (a = false) ∨ (a = true ∧ b = false) ∨ (a = true ∧ b = true ∧ c = false) := by
  cases a <;> cases b <;> cases c <;> simp
theorem ch4 (a b c d : Bool) : (a = true ∧ b = true ∧ c = true ∧ d = true) ∨ (a = false) ∨ (a = true ∧ b = false) ∨ (a = true ∧ b = true ∧ c = false) ∨ (a = true ∧ b = true ∧ c = true ∧ d = false) := by
  cases a <;> cases b <;> cases c <;> cases d <;> simp
theorem ch5 (a b c d e : Bool) : (a = true ∧ b = true ∧ c = true ∧ d = true ∧ e = true) ∨ (a = false) ∨ (a = true ∧ b = false) ∨ (a = true ∧ b = true ∧ c = false) ∨ (a = true ∧ b = true ∧ c = true ∧ d = false) ∨ (a = true ∧ b = true ∧ c = true ∧ d = true ∧ e = false) := by
  cases a <;> cases b <;> cases c <;> cases d <;> cases e <;> simp
theorem ch6 (a b c d e f : Bool) : (a = true ∧ b = true ∧ c = true ∧ d = true ∧ e = true ∧ f = true) ∨ (a = false) ∨ (a = true ∧ b = false) ∨ (a = true ∧ b = true ∧ c = false) ∨ (a = true ∧ b = true ∧ c = true ∧ d = false) ∨ (a = true ∧ b = true ∧ c = true ∧ d = true ∧ e = false) ∨ (a = true ∧ b = true ∧ c = true ∧ d = true ∧ e = true ∧ f = false) := by
  cases a <;> cases b <;> cases c <;> cases d <;> cases e <;> cases f <;> simp
end Go.Proofs.Ytjfppjhlkeopnaa

/- Ships by line and by name, their lengths: the plain law. No condition. -/
import Derived.Test.YtjfppjhlkeopnaaFleetOk
namespace Go.Proofs.Ytjfppjhlkeopnaa
open Go.RowKit
set_option linter.unusedVariables false
/-- the ships of a line among the first k -/
def lineTo (fl : List ShipD) (l : Int) : Nat → List Int
  | 0 => []
  | k + 1 => lineTo fl l k ++ if (fl.getD k default).line = l then [(k : Int)] else []
theorem lineTo_len (fl : List ShipD) (l : Int) : ∀ k, (lineTo fl l k).length ≤ k
  | 0 => by simp [lineTo]
  | k + 1 => by
    have := lineTo_len fl l k
    rw [lineTo, List.length_append]
    split <;> simp <;> omega
theorem lineTo_mem {fl : List ShipD} {l : Int} : ∀ k, k ≤ fl.length → ∀ x ∈ lineTo fl l k, ∃ i : Nat, x = i ∧ i < k ∧ (fl.getD i default).line = l
  | 0, _, x, h => by simp [lineTo] at h
  | k + 1, hk, x, h => by
    rw [lineTo, List.mem_append] at h
    rcases h with h | h
    · obtain ⟨i, h1, h2, h3⟩ := lineTo_mem k (by omega) x h
      exact ⟨i, h1, by omega, h3⟩
    · split at h
      · rename_i e
        rw [List.mem_singleton] at h
        exact ⟨k, h, by omega, e⟩
      · simp at h
theorem lines_all {fl : List ShipD} (h : FleetIs fl) : ∀ k, k ≤ fl.length → (lineTo fl 0 k).length + (lineTo fl 1 k).length + (lineTo fl 2 k).length + (lineTo fl 3 k).length = k
  | 0, _ => rfl
  | k + 1, hk => by
    have ih := lines_all h k (by omega)
    obtain ⟨-, -, -, -, -, h0, h3, -⟩ := h k (by omega)
    have e : fl.getD k default = fl[k] := getD_at (by omega)
    have hl : ∀ l : Int, (lineTo fl l (k + 1)).length = (lineTo fl l k).length + if fl[k].line = l then 1 else 0 := by
      intro l
      rw [lineTo, List.length_append, e]
      split <;> simp
    rw [hl, hl, hl, hl]
    have : fl[k].line = 0 ∨ fl[k].line = 1 ∨ fl[k].line = 2 ∨ fl[k].line = 3 := by omega
    rcases this with e | e | e | e <;> simp [e] <;> omega
/-- the number of ships of the lines below n -/
def linesTo (fl : List ShipD) : Nat → Nat
  | 0 => 0
  | n + 1 => linesTo fl n + (lineTo fl (n : Nat) fl.length).length
theorem lines_four {fl : List ShipD} (h : FleetIs fl) : linesTo fl 4 = fl.length := by
  have := lines_all h fl.length (Nat.le_refl _)
  simp only [linesTo]
  simp at this ⊢
  omega
theorem linesTo_le (fl : List ShipD) : ∀ n, linesTo fl n ≤ n * fl.length
  | 0 => by simp [linesTo]
  | n + 1 => by
    have := linesTo_le fl n
    have := lineTo_len fl (n : Nat) fl.length
    rw [linesTo, Nat.succ_mul]; omega
def lenTo (fl : List ShipD) : Nat → Int
  | 0 => 0
  | k + 1 => lenTo fl k + (fl.getD k default).length
theorem lenTo_range {fl : List ShipD} (h : FleetIs fl) : ∀ k, k ≤ fl.length → 0 ≤ lenTo fl k ∧ lenTo fl k ≤ 400 * k
  | 0, _ => by simp [lenTo]
  | k + 1, hk => by
    have := lenTo_range h k (by omega)
    obtain ⟨-, h1, h2, -⟩ := h k (by omega)
    rw [lenTo, getD_at (show k < fl.length by omega)]; omega
theorem named_is {fl : List ShipD} (h : FleetIs fl) (hl : fl.length ≤ 6) {i : Nat} (hi : i < fl.length) : shipNamed fl fl[i].name = i := by
  unfold shipNamed
  refine firstUpTo_hit (fun j hj => ?_) ?_ hi
  · unfold sameName
    rw [getD_at (show j < fl.length by omega), (h j (by omega)).1, (h i hi).1]
    simp only [decide_eq_false_iff_not]
    exact fun e => by have := shipNm_inj (by omega) (by omega) e; omega
  · unfold sameName; rw [getD_at hi]; simp
/-- with at most one tug each -/
theorem FleetIs.tugs {fl : List ShipD} (h : FleetIs fl) {k : Nat} (hk : k < fl.length) : FleetIs (fl.set k ⟨fl[k].name, fl[k].length, fl[k].draught, fl[k].line, min fl[k].tugs 1, fl[k].slow⟩) := by
  intro i hi
  rw [List.length_set] at hi
  obtain ⟨a, b, c, d, e, f, g, i1, j⟩ := h i hi
  rw [List.getElem_set]
  split
  · rename_i e2
    subst e2
    exact ⟨a, b, c, d, e, f, g, by simp only; omega, by simp only; omega⟩
  · exact ⟨a, b, c, d, e, f, g, i1, j⟩
end Go.Proofs.Ytjfppjhlkeopnaa

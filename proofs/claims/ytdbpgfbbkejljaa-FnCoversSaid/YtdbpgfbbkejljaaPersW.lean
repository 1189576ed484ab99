/- The least number of persons, as the program reckons it. No condition. -/
import Derived.Test.YtdbpgfbbkejljaaCovL
import Derived.Test.YtdbpgfbbkejljaaRowG
import Derived.Test.YtdbpgfbbkejljaaLen
import Derived.StillTailTactics
namespace Go.Proofs.Ytdbpgfbbkejljaa
open Go.RowKit
set_option linter.unusedVariables false
/-- the table of the sets that go together, below k -/
def tgTab (cl : Nat → Bool) (k : Nat) : Nat → Bool := fun j => if j < k then cl j else false
/-- the table of the least numbers while set s is at work -/
def lsTab (lf : Nat → Nat) (s acc : Nat) : Nat → Int := fun j => if j < s then (lf j : Int) else if j = s then acc else 0
theorem tg_next {cl : Nat → Bool} {N s : Nat} : rowG N (fun j => if j = s then cl s else tgTab cl s j) = rowG N (tgTab cl (s + 1)) := rowG_congr fun j _ => by
  unfold tgTab
  by_cases e : j = s
  · subst e; simp
  · rw [if_neg e]
    by_cases e2 : j < s
    · rw [if_pos e2, if_pos (by omega)]
    · rw [if_neg e2, if_neg (by omega)]
theorem ls_put {lf : Nat → Nat} {N s acc acc' : Nat} : rowG N (fun j => if j = s then (acc' : Int) else lsTab lf s acc j) = rowG N (lsTab lf s acc') := rowG_congr fun j _ => by
  unfold lsTab
  by_cases e : j = s
  · subst e; simp
  · simp [e]
theorem ls_next {lf : Nat → Nat} {N s acc : Nat} (h : acc = lf s) : rowG N (lsTab lf s acc) = rowG N (lsTab lf (s + 1) 0) := rowG_congr fun j _ => by
  unfold lsTab
  by_cases e : j < s
  · rw [if_pos e, if_pos (by omega)]
  · rw [if_neg e]
    by_cases e2 : j = s
    · subst e2; rw [if_pos rfl, if_pos (by omega), h]
    · rw [if_neg e2, if_neg (by omega)]; split <;> rfl
theorem split_top {s n : Nat} (h0 : 0 < s) (h1 : s ≤ 65535) (hn : s < 2 ^ n) : ∃ t r, Lib.bitLen s = t + 1 ∧ t < n ∧ r < 2 ^ t ∧ s = r + 2 ^ t := by
  obtain ⟨t, ht, h2, h3⟩ := bitLen_is h0 h1
  rw [Nat.pow_succ] at h3
  refine ⟨t, s - 2 ^ t, ht, ?_, by omega, by omega⟩
  rcases Nat.lt_or_ge t n with h | h
  · exact h
  · have := Nat.pow_le_pow_right (show 0 < 2 by omega) h; omega
theorem top_off {t r c : Nat} (hr : r < 2 ^ t) (hc : ∀ k, c.testBit k = ((r + 2 ^ t).testBit k && !(2 ^ t).testBit k)) : c = r := by
  apply Nat.eq_of_testBit_eq
  intro k
  rw [hc, mem_add hr, Nat.testBit_two_pow]
  by_cases e : t = k
  · subst e; simp [Nat.testBit_lt_two_pow hr]
  · have e2 : ¬ k = t := fun h => e h.symm
    simp [e, e2]
/-- the partners of t hold all of r -/
theorem holds_all {p : Int} {ms : List Int} {xs : List DutyD} {t r c : Nat} (hr : r < 2 ^ t) (ht : t < xs.length) (hc : ∀ k, c.testBit k = (r.testBit k && !(partBits p ms xs t).testBit k)) : c = 0 ↔ ∀ i, Mem r i → bothD p ms xs t i = true := by
  have hp : ∀ i, i < t → (partBits p ms xs t).testBit i = bothD p ms xs t i := fun i hi => by
    unfold partBits; rw [bitsOf_test]; unfold partB; simp [show i < xs.length by omega, show t ≠ i by omega]
  constructor
  · intro e i hi
    have h1 := hc i
    rw [e, Nat.zero_testBit, show r.testBit i = true from hi, hp i (mem_lt2 hi hr)] at h1
    simpa using h1.symm
  · intro h
    apply Nat.eq_of_testBit_eq
    intro k
    rw [hc, Nat.zero_testBit]
    cases e : r.testBit k with
    | false => rfl
    | true =>
      have : Mem r k := e
      rw [hp k (mem_lt2 this hr), h k this]; rfl
theorem or_top {p t : Nat} (hp : p < 2 ^ t) : p ||| 2 ^ t = p + 2 ^ t := by
  apply Nat.eq_of_testBit_eq
  intro k
  rw [Nat.testBit_or, mem_add hp, Nat.testBit_two_pow]
  by_cases e : t = k
  · subst e; simp
  · have e2 : ¬ k = t := fun h => e h.symm
    simp [e, e2]
theorem encU_one (x : Int) : ∀ u ∈ encU x, u.oneCell' = true := by intro u hu; simp at hu; subst hu; rfl
end Go.Proofs.Ytdbpgfbbkejljaa

/- Sets as bits, in plain words: the search through the parts of a set meets every part. No condition. -/
import Derived.Test.YtjfppjhlkeopnaaLeastL
namespace Go.Proofs.Ytjfppjhlkeopnaa
set_option linter.unusedVariables false
theorem and_two (x y : Nat) : x &&& y = 2 * ((x / 2) &&& (y / 2)) + (if x % 2 = 1 ∧ y % 2 = 1 then 1 else 0) := by
  have h1 : (x &&& y) / 2 = (x / 2) &&& (y / 2) := by rw [Nat.and_div_two]
  have h2 : (x &&& y) % 2 = if x % 2 = 1 ∧ y % 2 = 1 then 1 else 0 := by
    have := @Nat.and_mod_two_eq_one x y
    split
    · rename_i h; exact this.2 h
    · rename_i h
      have : ¬ (x &&& y) % 2 = 1 := fun h' => h (this.1 h')
      omega
  have := Nat.div_add_mod (x &&& y) 2
  omega
/-- p is a part of s -/
def Part (p s : Nat) : Prop := p &&& s = p
theorem part_two {p s : Nat} : Part p s ↔ Part (p / 2) (s / 2) ∧ (p % 2 = 1 → s % 2 = 1) := by
  unfold Part
  have h := and_two p s
  constructor
  · intro e
    rw [e] at h
    split at h
    · rename_i h1; exact ⟨by omega, fun _ => h1.2⟩
    · rename_i h1
      refine ⟨by omega, fun h2 => ?_⟩
      exfalso; apply h1; omega
  · rintro ⟨h1, h2⟩
    rw [h1] at h
    split at h
    · omega
    · rename_i h3
      have : ¬ p % 2 = 1 := fun h4 => h3 ⟨h4, h2 h4⟩
      omega
theorem Part.le {p s : Nat} (h : Part p s) : p ≤ s := by unfold Part at h; rw [← h]; exact Nat.and_le_right
theorem part_zero (s : Nat) : Part 0 s := by simp [Part]
theorem part_refl (s : Nat) : Part s s := by simp [Part]
theorem part_and (p s : Nat) : Part (p &&& s) s := by unfold Part; rw [Nat.and_assoc, Nat.and_self]
theorem part_next : ∀ (s : Nat) {p q : Nat}, Part p s → Part q s → q < p → q ≤ (p - 1) &&& s := by
  intro s
  induction s using Nat.strongRecOn with
  | _ s ih =>
    intro p q hp hq hlt
    by_cases hs : s = 0
    · subst hs; have := hp.le; omega
    · obtain ⟨hp1, hp2⟩ := part_two.1 hp
      obtain ⟨hq1, hq2⟩ := part_two.1 hq
      rw [and_two]
      by_cases hf : p % 2 = 1
      · have e1 : (p - 1) / 2 = p / 2 := by omega
        have e2 : ¬ (p - 1) % 2 = 1 := by omega
        rw [e1, hp1, if_neg (fun h => e2 h.1)]; omega
      · have e1 : (p - 1) / 2 = p / 2 - 1 := by omega
        have e2 : (p - 1) % 2 = 1 := by omega
        have := ih (s / 2) (by omega) hp1 hq1 (by omega)
        rw [e1]
        by_cases h3 : s % 2 = 1
        · rw [if_pos ⟨e2, h3⟩]; omega
        · rw [if_neg (fun h => h3 h.2)]
          have : ¬ q % 2 = 1 := fun h => h3 (hq2 h)
          omega
theorem part_sub {p s : Nat} (h : Part p s) : ∀ k, (s - p).testBit k = (s.testBit k && !p.testBit k) := by
  intro k
  induction k generalizing p s with
  | zero =>
    obtain ⟨h1, h2⟩ := part_two.1 h
    have := h.le
    have hl := h1.le
    simp only [Nat.testBit_zero]
    by_cases a : p % 2 = 1
    · have b := h2 a
      have : ¬ (s - p) % 2 = 1 := by omega
      simp [a, this]
    · by_cases b : s % 2 = 1
      · have : (s - p) % 2 = 1 := by omega
        simp [a, b, this]
      · have : ¬ (s - p) % 2 = 1 := by omega
        simp [b, this]
  | succ k ih =>
    obtain ⟨h1, h2⟩ := part_two.1 h
    have := h.le
    have hl := h1.le
    have e : (s - p) / 2 = s / 2 - p / 2 := by
      by_cases a : p % 2 = 1
      · have b := h2 a; omega
      · omega
    rw [Nat.testBit_succ, Nat.testBit_succ, Nat.testBit_succ, e, ih h1]
theorem part_iff {p s : Nat} : Part p s ↔ ∀ k, p.testBit k = true → s.testBit k = true := by
  constructor
  · intro h k hk
    unfold Part at h
    rw [← h, Nat.testBit_and] at hk
    simp at hk; exact hk.2
  · intro h
    unfold Part
    apply Nat.eq_of_testBit_eq
    intro k
    rw [Nat.testBit_and]
    cases hp : p.testBit k with
    | false => rfl
    | true => rw [h k hp]; rfl

theorem partLoop_hit {fit : Nat → Bool} {g : Nat → Int} {s : Nat} {q : Nat} (hq : Part q s) (h0 : q ≠ 0) (hf : fit q = true) : ∀ (p : Nat) (acc : Int), Part p s → q ≤ p → partLoop fit g s p acc ≤ 1 + g (s - q) := by
  intro p
  induction p using Nat.strongRecOn with
  | _ p ih =>
    intro acc hp hle
    have hp0 : p ≠ 0 := by omega
    rw [partLoop_step hp0]
    by_cases e : q = p
    · subst e
      refine Int.le_trans (partLoop_le _ _) ?_
      rw [if_pos hf]; omega
    · exact ih _ (and_lt_of hp0) _ (part_and _ _) (part_next s hp hq (by omega))
theorem partLoop_is {fit : Nat → Bool} {g : Nat → Int} {s : Nat} : ∀ (p : Nat) (acc : Int), Part p s → partLoop fit g s p acc = acc ∨ ∃ q, q ≠ 0 ∧ Part q s ∧ fit q = true ∧ partLoop fit g s p acc = 1 + g (s - q) := by
  intro p
  induction p using Nat.strongRecOn with
  | _ p ih =>
    intro acc hp
    by_cases hp0 : p = 0
    · subst hp0; exact .inl partLoop_zero
    · rw [partLoop_step hp0]
      rcases ih _ (and_lt_of (set := s) hp0) (if fit p = true then min acc (1 + g (s - p)) else acc) (part_and _ _) with h | h
      · rw [h]
        by_cases hf : fit p = true
        · rw [if_pos hf]
          by_cases h2 : acc ≤ 1 + g (s - p)
          · left; omega
          · right; exact ⟨p, hp0, hp, hf, by omega⟩
        · rw [if_neg hf]; exact .inl rfl
      · exact .inr h
theorem leastF_le {fit : Nat → Bool} {len : Int} {s q : Nat} (hq : Part q s) (h0 : q ≠ 0) (hf : fit q = true) : leastF fit len s ≤ 1 + leastF fit len (s - q) := by
  cases s with
  | zero => have := hq.le; omega
  | succ n => rw [leastF_succ]; exact partLoop_hit hq h0 hf _ _ (part_refl _) hq.le
theorem leastF_is {fit : Nat → Bool} {len : Int} {s : Nat} (hs : s ≠ 0) : leastF fit len s = len ∨ ∃ q, q ≠ 0 ∧ Part q s ∧ fit q = true ∧ leastF fit len s = 1 + leastF fit len (s - q) := by
  cases s with
  | zero => omega
  | succ n => rw [leastF_succ]; exact partLoop_is _ _ (part_refl _)
end Go.Proofs.Ytjfppjhlkeopnaa

/- Rivals among duties, in plain words: the largest sets of which no two go together. No condition. -/
namespace Go.Proofs.Ytdbpgfbbkejljaa
set_option linter.unusedVariables false
/-- the numbers below n that a set names, given as bits -/
def nums (n b : Nat) : List Nat := (List.range n).filter fun i => b.testBit i
theorem nums_zero (b : Nat) : nums 0 b = [] := rfl
theorem nums_succ (n b : Nat) : nums (n + 1) b = nums n b ++ if b.testBit n = true then [n] else [] := by
  unfold nums
  rw [List.range_succ, List.filter_append]
  congr 1
  by_cases h : b.testBit n = true
  · simp [h]
  · simp [h]
theorem mem_nums {n b i : Nat} : i ∈ nums n b ↔ i < n ∧ b.testBit i = true := by simp [nums]
theorem nums_len (n b : Nat) : (nums n b).length ≤ n := by have := List.length_filter_le (fun i => b.testBit i) (List.range n); simpa [nums] using this
theorem nums_pair (n b : Nat) : (nums n b).Pairwise (· < ·) := List.pairwise_lt_range.filter _
/-- no two of the list go together -/
def rivalB (B : Nat → Nat → Bool) (s : List Nat) : Bool := (List.range s.length).all fun i => (List.range i).all fun j => !B (s.getD i 0) (s.getD j 0)
theorem rivalB_iff {B : Nat → Nat → Bool} {s : List Nat} : rivalB B s = true ↔ ∀ i j, j < i → i < s.length → B (s.getD i 0) (s.getD j 0) = false := by
  simp [rivalB]
  exact ⟨fun h i j h1 h2 => h i h2 j h1, fun h i h2 j h1 => h i j h1 h2⟩
/-- no member of the set has a partner in it -/
theorem rivalB_nums {B : Nat → Nat → Bool} (hs : ∀ i k, B i k = B k i) {n b : Nat} : rivalB B (nums n b) = true ↔ ∀ i k, i < n → k < n → i ≠ k → b.testBit i = true → b.testBit k = true → B i k = false := by
  rw [rivalB_iff]
  have hp := nums_pair n b
  constructor
  · intro h i k hi hk hne h1 h2
    obtain ⟨x, hx, hxi⟩ := List.getElem_of_mem (mem_nums.2 ⟨hi, h1⟩)
    obtain ⟨y, hy, hyk⟩ := List.getElem_of_mem (mem_nums.2 ⟨hk, h2⟩)
    have gx : (nums n b).getD x 0 = i := by simp [List.getD, hx, hxi]
    have gy : (nums n b).getD y 0 = k := by simp [List.getD, hy, hyk]
    rcases Nat.lt_trichotomy x y with hl | hl | hl
    · rw [hs, ← gx, ← gy]; exact h y x hl hy
    · subst hl; exact absurd (hxi.symm.trans hyk) hne
    · rw [← gx, ← gy]; exact h x y hl hx
  · intro h i j hji hi
    have hj : j < (nums n b).length := by omega
    have e1 : (nums n b).getD i 0 = (nums n b)[i] := by simp [List.getD, hi]
    have e2 : (nums n b).getD j 0 = (nums n b)[j] := by simp [List.getD, hj]
    have m1 := mem_nums.1 (List.getElem_mem hi)
    have m2 := mem_nums.1 (List.getElem_mem hj)
    have hlt := List.pairwise_iff_getElem.1 hp j i hj hi hji
    rw [e1, e2]
    exact h _ _ m1.1 m2.1 (by omega) m1.2 m2.2
/-- which of two lists of one length comes first -/
def lessL : List Nat → List Nat → Bool
  | a :: as, b :: bs => if a = b then lessL as bs else decide (a < b)
  | _, _ => false
/-- the best rivals among the sets below b -/
def bestR (B : Nat → Nat → Bool) (n : Nat) : Nat → List Nat
  | 0 => []
  | b + 1 => if rivalB B (nums n b) = true ∧ ((bestR B n b).length < (nums n b).length ∨ (nums n b).length = (bestR B n b).length ∧ lessL (nums n b) (bestR B n b) = true) then nums n b else bestR B n b
theorem bestR_is (B : Nat → Nat → Bool) (n : Nat) : ∀ b : Nat, bestR B n b = [] ∨ ∃ c, c < b ∧ bestR B n b = nums n c ∧ rivalB B (nums n c) = true
  | 0 => .inl rfl
  | b + 1 => by
    rw [bestR]
    split
    · rename_i h; exact .inr ⟨b, by omega, rfl, h.1⟩
    · rcases bestR_is B n b with h | ⟨c, h1, h2, h3⟩
      · exact .inl h
      · exact .inr ⟨c, by omega, h2, h3⟩
theorem bestR_ge {B : Nat → Nat → Bool} {n : Nat} : ∀ {b c : Nat}, c < b → rivalB B (nums n c) = true → (nums n c).length ≤ (bestR B n b).length
  | 0, c, h, _ => by omega
  | b + 1, c, h, hr => by
    rw [bestR]
    by_cases e : c = b
    · subst e
      by_cases h2 : (bestR B n c).length < (nums n c).length
      · rw [if_pos ⟨hr, .inl h2⟩]; exact Nat.le_refl _
      · split <;> omega
    · have := bestR_ge (B := B) (n := n) (b := b) (c := c) (by omega) hr
      split
      · rename_i h2; rcases h2.2 with h3 | h3 <;> omega
      · exact this
theorem bestR_len (B : Nat → Nat → Bool) (n b : Nat) : (bestR B n b).length ≤ n := by
  rcases bestR_is B n b with h | ⟨c, _, h, _⟩
  · rw [h]; simp
  · rw [h]; exact nums_len n c
/-- the set of the k < n with f k, as a number -/
def bitsOf (f : Nat → Bool) : Nat → Nat
  | 0 => 0
  | k + 1 => bitsOf f k + if f k = true then 2 ^ k else 0
theorem bitsOf_lt (f : Nat → Bool) : ∀ k, bitsOf f k < 2 ^ k
  | 0 => by simp [bitsOf]
  | k + 1 => by rw [bitsOf, Nat.pow_succ]; have := bitsOf_lt f k; split <;> omega
theorem bitsOf_test (f : Nat → Bool) : ∀ (n k : Nat), (bitsOf f n).testBit k = (decide (k < n) && f k)
  | 0, k => by simp [bitsOf]
  | n + 1, k => by
    have hlt := bitsOf_lt f n
    rw [bitsOf]
    by_cases h : f n = true
    · rw [if_pos h, Nat.add_comm]
      by_cases e : k = n
      · subst e; rw [Nat.testBit_two_pow_add_eq, Nat.testBit_lt_two_pow hlt]; simp [h]
      · rcases Nat.lt_or_ge k n with h2 | h2
        · rw [Nat.testBit_two_pow_add_gt h2, bitsOf_test f n k]; simp [h2, show k < n + 1 by omega]
        · rw [Nat.testBit_lt_two_pow (x := 2 ^ n + bitsOf f n) (i := k) (Nat.lt_of_lt_of_le (show 2 ^ n + bitsOf f n < 2 ^ (n + 1) by rw [Nat.pow_succ]; omega) (Nat.pow_le_pow_right (by omega) (by omega)))]
          simp; omega
    · rw [if_neg h, Nat.add_zero, bitsOf_test f n k]
      by_cases e : k = n
      · subst e; simp [h]
      · have : (decide (k < n + 1)) = decide (k < n) := by simp; omega
        rw [this]
theorem bitsOf_or (f : Nat → Bool) (n : Nat) (h : f n = true) : bitsOf f n ||| 2 ^ n = bitsOf f (n + 1) := by
  apply Nat.eq_of_testBit_eq
  intro k
  rw [Nat.testBit_or, bitsOf_test, bitsOf_test, Nat.testBit_two_pow]
  by_cases e : k = n
  · subst e; simp [h]
  · have : (decide (k < n + 1)) = decide (k < n) := by simp; omega
    rw [this]; simp [show ¬ n = k by omega]
end Go.Proofs.Ytdbpgfbbkejljaa

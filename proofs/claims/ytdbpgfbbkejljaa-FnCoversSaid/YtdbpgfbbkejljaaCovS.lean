/- The search for a cover with groups of duties as bits, in plain words. No condition. -/
import Derived.Test.YtdbpgfbbkejljaaPersB
namespace Go.Proofs.Ytdbpgfbbkejljaa
set_option linter.unusedVariables false
/-- persons given to the first duties, and the duties of each person as bits -/
structure GInv (B : Nat → Nat → Bool) (m : Nat) (ws gs : List Nat) : Prop where
  bit : ∀ p (h : p < gs.length) i, gs[p].testBit i = true ↔ ∃ h : i < ws.length, ws[i] = p
  pos : ∀ p (h : p < gs.length), gs[p] ≠ 0
  lt : ∀ i (h : i < ws.length), ws[i] < gs.length
  ok : ∀ i k (hi : i < ws.length) (hk : k < i), ws[i] = ws[k] → B i k = true
  le : gs.length ≤ m
theorem GInv.nil (B : Nat → Nat → Bool) (m : Nat) : GInv B m [] [] := ⟨fun p h => by simp at h, fun p h => by simp at h, fun i h => by simp at h, fun i k h => by simp at h, by simp⟩
theorem GInv.lt_pow {B : Nat → Nat → Bool} {m : Nat} {ws gs : List Nat} (h : GInv B m ws gs) {p : Nat} (hp : p < gs.length) : gs[p] < 2 ^ ws.length := by
  apply Nat.lt_pow_two_of_testBit
  intro i hi
  cases e : gs[p].testBit i with
  | false => rfl
  | true => obtain ⟨h1, -⟩ := (h.bit p hp i).1 e; omega
/-- the groups when a person is at work: one more, empty, if it is a new one -/
def gsAt (gs : List Nat) (p : Nat) : List Nat := if p < gs.length then gs else gs ++ [0]
theorem gsAt_len {gs : List Nat} {p : Nat} (h : p ≤ gs.length) : p < (gsAt gs p).length := by
  unfold gsAt; split
  · assumption
  · simp; omega
theorem gsAt_old {gs : List Nat} {p : Nat} (h : p < gs.length) : gsAt gs p = gs := if_pos h
theorem gsAt_new {gs : List Nat} : gsAt gs gs.length = gs ++ [0] := if_neg (by omega)
/-- the next duty goes with all duties of a person -/
def GoesW (B : Nat → Nat → Bool) (ws : List Nat) (p : Nat) : Prop := ∀ k (h : k < ws.length), ws[k] = p → B ws.length k = true
theorem GInv.put {B : Nat → Nat → Bool} {m : Nat} {ws gs : List Nat} (h : GInv B m ws gs) {p g : Nat} (hp : p ≤ gs.length) (hm : p < m) (hg : (gsAt gs p)[p]'(gsAt_len hp) = g) (hf : GoesW B ws p) : GInv B m (ws ++ [p]) ((gsAt gs p).set p (g ||| 2 ^ ws.length)) := by
  have hgb : ∀ i, g.testBit i = true ↔ ∃ h : i < ws.length, ws[i] = p := by
    intro i
    rw [← hg]
    rcases Nat.lt_or_ge p gs.length with h1 | h1
    · simp only [gsAt_old h1]; exact h.bit p h1 i
    · obtain rfl : p = gs.length := by omega
      simp only [gsAt_new, List.getElem_append_right (Nat.le_refl gs.length), Nat.sub_self, List.getElem_singleton, Nat.zero_testBit]
      constructor
      · intro e; cases e
      · rintro ⟨h2, h3⟩; have := h.lt i h2; omega
  have hlen : (gsAt gs p).length = max gs.length (p + 1) := by
    unfold gsAt; split
    · omega
    · simp; omega
  refine ⟨fun q hq i => ?_, fun q hq => ?_, fun i hi => ?_, fun i k hi hk e => ?_, ?_⟩
  · rw [List.length_set] at hq
    rw [List.getElem_set]
    by_cases e : p = q
    · subst e
      rw [if_pos rfl, Nat.testBit_or, Nat.testBit_two_pow, Bool.or_eq_true, decide_eq_true_eq, hgb]
      constructor
      · rintro (⟨h1, h2⟩ | h1)
        · exact ⟨by simp; omega, by rw [List.getElem_append_left h1]; exact h2⟩
        · subst h1; exact ⟨by simp, by simp⟩
      · rintro ⟨h1, h2⟩
        rw [List.length_append, List.length_singleton] at h1
        by_cases h3 : i < ws.length
        · rw [List.getElem_append_left h3] at h2; exact .inl ⟨h3, h2⟩
        · exact .inr (by omega)
    · rw [if_neg e]
      have hq2 : q < gs.length := by omega
      have hx : (gsAt gs p)[q] = gs[q] := by
        unfold gsAt
        split
        · rfl
        · rw [List.getElem_append_left hq2]
      rw [hx, h.bit q hq2 i]
      constructor
      · rintro ⟨h1, h2⟩; exact ⟨by simp; omega, by rw [List.getElem_append_left h1]; exact h2⟩
      · rintro ⟨h1, h2⟩
        rw [List.length_append, List.length_singleton] at h1
        by_cases h3 : i < ws.length
        · rw [List.getElem_append_left h3] at h2; exact ⟨h3, h2⟩
        · rw [List.getElem_append_right (by omega)] at h2; simp at h2; exact absurd h2 e
  · rw [List.length_set] at hq
    rw [List.getElem_set]
    by_cases e : p = q
    · subst e
      rw [if_pos rfl]
      intro hz
      have := congrArg (fun n => n.testBit ws.length) hz
      simp [Nat.testBit_or, Nat.testBit_two_pow] at this
    · rw [if_neg e]
      have hq2 : q < gs.length := by omega
      have hx : (gsAt gs p)[q] = gs[q] := by
        unfold gsAt
        split
        · rfl
        · rw [List.getElem_append_left hq2]
      rw [hx]; exact h.pos q hq2
  · rw [List.length_set, hlen]
    rw [List.length_append, List.length_singleton] at hi
    by_cases h3 : i < ws.length
    · rw [List.getElem_append_left h3]; have := h.lt i h3; omega
    · rw [List.getElem_append_right (by omega)]; simp; omega
  · rw [List.length_append, List.length_singleton] at hi
    rw [List.getElem_append_left (show k < ws.length by omega)] at e
    by_cases h3 : i < ws.length
    · rw [List.getElem_append_left h3] at e; exact h.ok i k h3 hk e
    · obtain rfl : i = ws.length := by omega
      simp at e
      exact hf k (by omega) e.symm
  · rw [List.length_set, hlen]; have := h.le; omega
/-- the next duty does not go with a person's duties -/
theorem GInv.misfit {B : Nat → Nat → Bool} {m n : Nat} {ws : List Nat} (hn : ws.length < n) {p : Nat} (hf : ¬ GoesW B ws p) : ¬ ExtP B n m (ws ++ [p]) := by
  rintro ⟨f, h1, h2, h3⟩
  refine hf fun k hk e => ?_
  have a := h3 ws.length (by simp)
  have b := h3 k (by simp; omega)
  rw [List.getElem_append_left hk, e] at b
  simp at a
  exact h2 ws.length k hn hk (by rw [a, b])
theorem GInv.none {B : Nat → Nat → Bool} {m n : Nat} {ws gs : List Nat} (h : GInv B m ws gs) (hn : ws.length < n) (ha : ∀ p, p ≤ gs.length → p < m → ¬ ExtP B n m (ws ++ [p])) : ¬ ExtP B n m ws := by
  intro he
  obtain ⟨p, h1, h2, h3⟩ := he.next (u := gs.length) hn (fun x hx => by
    obtain ⟨i, hi, rfl⟩ := List.getElem_of_mem hx
    exact h.lt i hi)
  exact ha p h1 h2 h3
/-- whether the next duty fits, in bits -/
theorem GInv.fits {B : Nat → Nat → Bool} {m : Nat} {ws gs : List Nat} (h : GInv B m ws gs) {p g : Nat} (hp : p ≤ gs.length) (hg : (gsAt gs p)[p]'(gsAt_len hp) = g) {S c : Nat} (hS : ∀ k, k < ws.length → S.testBit k = B ws.length k) (hc : ∀ k, c.testBit k = (g.testBit k && !S.testBit k)) : c = 0 ↔ GoesW B ws p := by
  have hgb : ∀ i, g.testBit i = true ↔ ∃ h : i < ws.length, ws[i] = p := by
    intro i
    rw [← hg]
    rcases Nat.lt_or_ge p gs.length with h1 | h1
    · simp only [gsAt_old h1]; exact h.bit p h1 i
    · obtain rfl : p = gs.length := by omega
      simp only [gsAt_new, List.getElem_append_right (Nat.le_refl gs.length), Nat.sub_self, List.getElem_singleton, Nat.zero_testBit]
      constructor
      · intro e; cases e
      · rintro ⟨h2, h3⟩; have := h.lt i h2; omega
  constructor
  · intro e k hk hw
    have h1 := hc k
    rw [e, Nat.zero_testBit, (hgb k).2 ⟨hk, hw⟩, hS k hk] at h1
    simpa using h1.symm
  · intro hf
    apply Nat.eq_of_testBit_eq
    intro k
    rw [hc, Nat.zero_testBit]
    cases e : g.testBit k with
    | false => rfl
    | true =>
      obtain ⟨h1, h2⟩ := (hgb k).1 e
      rw [hS k h1, hf k h1 h2]; rfl
theorem gsAt_lt {B : Nat → Nat → Bool} {m : Nat} {ws gs : List Nat} (h : GInv B m ws gs) {p g : Nat} (hp : p ≤ gs.length) (hg : (gsAt gs p)[p]'(gsAt_len hp) = g) : g < 2 ^ ws.length ∧ (g = 0 ↔ p = gs.length) := by
  rw [← hg]
  rcases Nat.lt_or_ge p gs.length with h1 | h1
  · simp only [gsAt_old h1]
    exact ⟨h.lt_pow h1, ⟨fun e => absurd e (h.pos p h1), fun e => by omega⟩⟩
  · obtain rfl : p = gs.length := by omega
    simp only [gsAt_new, List.getElem_append_right (Nat.le_refl gs.length), Nat.sub_self, List.getElem_singleton]
    exact ⟨Nat.pow_pos (by omega), by simp⟩
/-- a bit put and taken away -/
theorem put_take {g c t : Nat} (hg : g < 2 ^ t) (hc : ∀ k, c.testBit k = ((g ||| 2 ^ t).testBit k && !(2 ^ t).testBit k)) : c = g := by
  apply Nat.eq_of_testBit_eq
  intro k
  rw [hc, Nat.testBit_or, Nat.testBit_two_pow]
  by_cases e : t = k
  · subst e; simp [Nat.testBit_lt_two_pow hg]
  · simp [e]
/-- what the search finds -/
def CovL (B : Nat → Nat → Bool) (n m : Nat) (fs : List Nat) : Prop := fs.length = n ∧ (∀ i (h : i < fs.length), fs[i] < m) ∧ ∀ i k (hi : i < fs.length) (hk : k < i), fs[i] = fs[k] → B i k = true
theorem GInv.full {B : Nat → Nat → Bool} {m n : Nat} {ws gs : List Nat} (h : GInv B m ws gs) (hn : ws.length = n) : CovL B n m ws := ⟨hn, fun i hi => by have := h.lt i hi; have := h.le; omega, h.ok⟩
theorem CovL.covp {B : Nat → Nat → Bool} {n m : Nat} {fs : List Nat} (h : CovL B n m fs) : CovP B (fun i => i < n) m := by
  obtain ⟨h1, h2, h3⟩ := h
  refine ⟨fun i => fs.getD i 0, fun i hi => ?_, fun i k hi hk hlt e => ?_⟩
  · have := h2 i (by omega)
    simpa [List.getD, show i < fs.length by omega] using this
  · simp only [List.getD, List.getElem?_eq_getElem (show i < fs.length by omega), List.getElem?_eq_getElem (show k < fs.length by omega), Option.getD_some] at e
    exact h3 i k (by omega) hlt e
/-! ### persons seen -/
/-- the persons of the first duties, each once -/
def seenL (fs : List Nat) : Nat → List Nat
  | 0 => []
  | k + 1 => if (seenL fs k).contains (fs.getD k 0) = true then seenL fs k else seenL fs k ++ [fs.getD k 0]
theorem seenL_mem (fs : List Nat) : ∀ k x, x ∈ seenL fs k ↔ ∃ i, i < k ∧ fs.getD i 0 = x
  | 0, x => by simp [seenL]
  | k + 1, x => by
    have ih := seenL_mem fs k x
    rw [seenL]
    have hstep : (∃ i, i < k + 1 ∧ fs.getD i 0 = x) ↔ (∃ i, i < k ∧ fs.getD i 0 = x) ∨ fs.getD k 0 = x := by
      constructor
      · rintro ⟨i, hi, e⟩
        by_cases h : i = k
        · subst h; exact .inr e
        · exact .inl ⟨i, by omega, e⟩
      · rintro (⟨i, hi, e⟩ | e)
        · exact ⟨i, by omega, e⟩
        · exact ⟨k, by omega, e⟩
    rw [hstep, ← ih]
    split
    · rename_i h
      constructor
      · exact .inl
      · rintro (h1 | h1)
        · exact h1
        · rw [← h1]; simpa using h
    · rw [List.mem_append, List.mem_singleton]
      exact or_congr Iff.rfl ⟨Eq.symm, Eq.symm⟩
theorem seenL_nodup (fs : List Nat) : ∀ k, (seenL fs k).Nodup
  | 0 => by simp [seenL]
  | k + 1 => by
    have ih := seenL_nodup fs k
    rw [seenL]
    split
    · exact ih
    · rename_i h
      rw [List.nodup_append]
      refine ⟨ih, by simp, fun a ha b hb => ?_⟩
      rw [List.mem_singleton] at hb
      intro e
      apply h
      rw [← hb, ← e]; simpa using ha
theorem seenL_len (fs : List Nat) : ∀ k, (seenL fs k).length ≤ k
  | 0 => by simp [seenL]
  | k + 1 => by
    have ih := seenL_len fs k
    rw [seenL]
    split
    · omega
    · simp; omega
theorem seenL_least {B : Nat → Nat → Bool} {n m : Nat} {fs : List Nat} (h : CovL B n m fs) (hl : LeastP B (fun i => i < n) m) : (seenL fs n).length = m := by
  obtain ⟨h1, h2, h3⟩ := h
  have hle : (seenL fs n).length ≤ m := nodup_len m _ (seenL_nodup fs n) fun x hx => by
    obtain ⟨i, hi, rfl⟩ := (seenL_mem fs n x).1 hx
    have := h2 i (by omega)
    simpa [List.getD, show i < fs.length by omega] using this
  have hge := hl.2 (seenL fs n).length ⟨fun i => (seenL fs n).idxOf (fs.getD i 0), fun i hi => List.idxOf_lt_length_of_mem ((seenL_mem fs n _).2 ⟨i, hi, rfl⟩), fun i k hi hk hlt e => by
    have a := (seenL_mem fs n (fs.getD i 0)).2 ⟨i, hi, rfl⟩
    have b := (seenL_mem fs n (fs.getD k 0)).2 ⟨k, hk, rfl⟩
    have e2 : fs.getD i 0 = fs.getD k 0 := by
      have x1 := List.getElem_idxOf (List.idxOf_lt_length_of_mem a)
      have x2 := List.getElem_idxOf (List.idxOf_lt_length_of_mem b)
      rw [← x1, ← x2]
      congr 1
    simp only [List.getD, List.getElem?_eq_getElem (show i < fs.length by omega), List.getElem?_eq_getElem (show k < fs.length by omega), Option.getD_some] at e2
    exact h3 i k (by omega) hlt e2⟩
  omega
end Go.Proofs.Ytdbpgfbbkejljaa

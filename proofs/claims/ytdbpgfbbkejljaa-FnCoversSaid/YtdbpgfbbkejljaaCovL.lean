/- Least covers and rivals: what the laws on covers ask, in plain words. No condition. -/
import Derived.Test.YtdbpgfbbkejljaaCovS
import Derived.Test.YtdbpgfbbkejljaaRivalW
namespace Go.Proofs.Ytdbpgfbbkejljaa
open Go.RowKit
set_option linter.unusedVariables false
theorem getD_out {xs : List DutyD} {i : Nat} (h : ¬ i < xs.length) : xs.getD i default = default := by simp [List.getD, List.getElem?_eq_none (Nat.le_of_not_lt h)]
theorem bothD_in {p : Int} {ms : List Int} {xs : List DutyD} {i k : Nat} (h : bothD p ms xs i k = true) : dutyOk (xs.getD i default) = true ∧ dutyOk (xs.getD k default) = true := by
  unfold bothD canFollow at h
  simp only [Bool.or_eq_true, Bool.and_eq_true] at h
  rcases h with h | h
  · exact ⟨h.1.1.2, h.1.2⟩
  · exact ⟨h.1.2, h.1.1.2⟩
/-- the table of moves without times -/
def zeros : List Int := List.replicate 64 0
theorem zeros_ok : movesOk zeros = true := by decide +kernel
theorem zeros_get (k : Nat) : zeros.getD k 0 = 0 := by
  unfold zeros
  simp only [List.getD, List.getElem?_replicate]
  split <;> rfl
theorem zeros_table {p : Int} (h0 : 0 ≤ p) (h1 : p ≤ 2880) : tableOk p zeros = true := by
  unfold tableOk; rw [zeros_ok]; simp [inB]; omega
theorem cf_zero {p : Int} {d e : DutyD} (h0 : 0 ≤ p) (h1 : p ≤ 2880) (hd : dutyOk d = true) (he : dutyOk e = true) : canFollow p zeros d e = decide (d.fin + p ≤ e.start) := by
  have g : gapOk p zeros d.b e.a = true := by
    unfold gapOk
    rw [zeros_ok]
    simp only [dutyOk, Bool.and_eq_true] at hd he
    simp only [Bool.and_eq_true]
    exact ⟨⟨⟨by simp [inB]; omega, trivial⟩, hd.2⟩, he.1.2⟩
  unfold canFollow gapOf
  rw [g, hd, he, if_pos rfl, zeros_get]
  simp
theorem gap_zero {p : Int} (h0 : 0 ≤ p) (h1 : p ≤ 2880) : gapOk p zeros 0 0 = true ∧ gapOf p zeros 0 0 = p := by
  have g : gapOk p zeros 0 0 = true := by
    unfold gapOk
    rw [zeros_ok]
    simp [inB]; omega
  refine ⟨g, ?_⟩
  unfold gapOf
  rw [if_pos g, zeros_get]; omega
theorem line_both {p : Int} {xs : List DutyD} (h0 : 0 ≤ p) (h1 : p ≤ 2880) (i k t : Nat) (a1 : (xs.getD i default).start ≤ (xs.getD t default).start) (a2 : (xs.getD k default).start ≤ (xs.getD t default).start)
    (h3 : bothD p zeros xs i t = false) (h4 : bothD p zeros xs k t = false) (hxs : dutiesOk xs = true) : bothD p zeros xs i k = false := by
  cases e : bothD p zeros xs i k with
  | false => rfl
  | true =>
    exfalso
    obtain ⟨oi, ok⟩ := bothD_in e
    have fi := dutyOk_fin oi
    have fk := dutyOk_fin ok
    unfold bothD at e
    rw [cf_zero h0 h1 oi ok, cf_zero h0 h1 ok oi] at e
    simp only [Bool.or_eq_true, decide_eq_true_eq] at e
    by_cases ht : t < xs.length
    · have ot : dutyOk (xs.getD t default) = true := by
        simp only [dutiesOk, Bool.and_eq_true, List.all_eq_true] at hxs
        rw [getD_at ht]; exact hxs.2 _ (List.getElem_mem ht)
      have ft := dutyOk_fin ot
      unfold bothD at h3 h4
      rw [cf_zero h0 h1 oi ot, cf_zero h0 h1 ot oi] at h3
      rw [cf_zero h0 h1 ok ot, cf_zero h0 h1 ot ok] at h4
      simp only [Bool.or_eq_false_iff, decide_eq_false_iff_not] at h3 h4
      omega
    · rw [getD_out ht] at a1 a2
      have : (default : DutyD).start = 0 := rfl
      omega
theorem least_le {B : Nat → Nat → Bool} {n m : Nat} (h : LeastP B (fun i => i < n) m) : m ≤ n := h.2 n (CovP.id B _ fun i hi => hi)
theorem least_rivals {p : Int} {ms : List Int} {xs : List DutyD} {m : Nat} (h : LeastP (bothD p ms xs) (fun i => i < xs.length) m) : (rivalsOf p ms xs).length ≤ m := by
  unfold rivalsOf
  split
  · rcases bestR_is (bothD p ms xs) xs.length (2 ^ xs.length) with e | ⟨c, hc, e, hr⟩
    · rw [e]; simp
    · rw [e]
      obtain ⟨f, h1, h2⟩ := h.1
      exact rivals_le (bothD_symm p ms xs) (f := f) (fun i hi => h1 i hi) (fun i k hi hk e => h2 i k hi (by show k < xs.length; omega) hk e) hr
  · simp
/-- the law on duties in one line -/
theorem dilworth_is {p : Int} {xs : List DutyD} {m : Nat} (h0 : 0 ≤ p) (h1 : p ≤ 2880) (hxs : dutiesOk xs = true) (h : LeastP (bothD p zeros xs) (fun i => i < xs.length) m) : (rivalsOf p zeros xs).length = m := by
  have a := least_rivals h
  have hl := line_best (B := bothD p zeros xs) (st := fun i => (xs.getD i default).start) (bothD_symm p zeros xs) (n := xs.length) (fun i k t a1 a2 h3 h4 _ => line_both h0 h1 i k t a1 a2 h3 h4 hxs)
  have b := h.2 _ hl
  have e : rivalsOf p zeros xs = bestR (bothD p zeros xs) xs.length (2 ^ xs.length) := by
    unfold rivalsOf
    rw [hxs, zeros_table h0 h1]; rfl
  rw [e] at a ⊢
  omega
/-- what was found is a cover -/
theorem cov_is {p : Int} {ms : List Int} {xs : List DutyD} {m : Nat} {fs : List Nat} (hxs : dutiesOk xs = true) (hm : m ≤ xs.length) (h : CovL (bothD p ms xs) xs.length m fs) : isCover p ms xs (ints fs) = true := by
  obtain ⟨h1, h2, h3⟩ := h
  have g : ∀ i, i < xs.length → (ints fs).getD i default = ((fs.getD i 0 : Nat) : Int) := fun i hi => by
    simp [ints, List.getD, show i < fs.length by omega]
  have g2 : ∀ i (hi : i < xs.length), fs.getD i 0 = fs[i]'(by omega) := fun i hi => by simp [List.getD, show i < fs.length by omega]
  unfold isCover
  rw [hxs, ints_len, h1]
  simp only [Bool.true_and, Bool.and_eq_true, decide_eq_true_eq, true_and, allUpTo_iff]
  intro i hi
  unfold coverRow
  rw [Bool.and_eq_true, allUpTo_iff]
  refine ⟨?_, fun k hk => ?_⟩
  · rw [g i hi, g2 i hi]
    have := h2 i (by omega)
    simp [inB]; omega
  · unfold clashAt
    rw [g i hi, g k (by omega), g2 i hi, g2 k (by omega)]
    by_cases e : fs[i]'(by omega) = fs[k]'(by omega)
    · rw [h3 i k (by omega) hk e]; simp
    · have : ¬ ((fs[k]'(by omega) : Nat) : Int) = ((fs[i]'(by omega) : Nat) : Int) := by omega
      simp [this]
/-- rivals do not go together -/
theorem rivals_at {p : Int} {ms : List Int} {xs : List DutyD} {i k : Nat} (hki : k < i) (hi : i < (rivalsOf p ms xs).length) : (rivalsOf p ms xs)[i] < xs.length ∧ (rivalsOf p ms xs)[k]'(by omega) < xs.length ∧ bothD p ms xs (rivalsOf p ms xs)[i] ((rivalsOf p ms xs)[k]'(by omega)) = false ∧ (rivalsOf p ms xs)[k]'(by omega) < (rivalsOf p ms xs)[i] := by
  obtain ⟨l, hl⟩ : ∃ l, rivalsOf p ms xs = l := ⟨_, rfl⟩
  simp only [hl] at hi ⊢
  unfold rivalsOf at hl
  split at hl
  · rcases bestR_is (bothD p ms xs) xs.length (2 ^ xs.length) with e | ⟨c, hc, e, hr⟩
    · rw [e] at hl; subst hl; simp at hi
    · rw [e] at hl
      subst hl
      have a := mem_nums.1 (List.getElem_mem hi)
      have b := mem_nums.1 (List.getElem_mem (show k < (nums xs.length c).length by omega))
      have h1 := rivalB_iff.1 hr i k hki hi
      have h2 := List.pairwise_iff_getElem.1 (nums_pair xs.length c) k i (by omega) hi hki
      simp only [List.getD, List.getElem?_eq_getElem hi, List.getElem?_eq_getElem (show k < (nums xs.length c).length by omega), Option.getD_some] at h1
      exact ⟨a.1, b.1, h1, h2⟩
  · subst hl; simp at hi
theorem rivals_in {p : Int} {ms : List Int} {xs : List DutyD} {i : Nat} (hi : i < (rivalsOf p ms xs).length) : (rivalsOf p ms xs)[i] < xs.length := by
  obtain ⟨l, hl⟩ : ∃ l, rivalsOf p ms xs = l := ⟨_, rfl⟩
  simp only [hl] at hi ⊢
  unfold rivalsOf at hl
  split at hl
  · rcases bestR_is (bothD p ms xs) xs.length (2 ^ xs.length) with e | ⟨c, hc, e, hr⟩
    · rw [e] at hl; subst hl; simp at hi
    · rw [e] at hl
      subst hl
      exact (mem_nums.1 (List.getElem_mem hi)).1
  · subst hl; simp at hi
end Go.Proofs.Ytdbpgfbbkejljaa

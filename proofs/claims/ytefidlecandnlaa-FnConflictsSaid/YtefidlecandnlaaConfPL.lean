/- The plain law of FnConflicts: conflicts are symmetric, a stricter regime has at least the same ones, and the first conflict is the first. No condition. -/
import Derived.Test.YtefidlecandnlaaConf3
namespace Go.Proofs.Ytefidlecandnlaa
open Go.RowKit
set_option linter.unusedVariables false

theorem ovB_symm (p q : PassageD) : ovB p q = ovB q p := by unfold ovB; rw [Int.max_comm, Int.min_comm]
theorem nearB_symm (a b g : Int) : nearB a b g = nearB b a g := by unfold nearB; rw [Int.max_comm, Int.min_comm]
theorem passB_symm (p q : PassageD) : passB p q = passB q p := by unfold passB; rw [Bool.or_comm]
theorem conflictV_symm (c : ChartD) (r0 : Int) (r1 : Bool) (p q : PassageD) : conflictV c r0 r1 p q = conflictV c r0 r1 q p := by
  unfold conflictV
  by_cases hs : p.segment = q.segment
  · rw [hs, ovB_symm p q, nearB_symm p.start, nearB_symm p.fin, passB_symm p q]
    by_cases hi : inB q.segment 0 ((c.segs.length : Int) - 1) = false
    · rw [if_pos hi, if_pos hi]
    · rw [if_neg hi, if_neg hi]
      simp only [not_true_eq_false, if_false]
      by_cases hp : p.ship = q.ship
      · simp only [hp, if_true]
      · have hp' : ¬ q.ship = p.ship := fun e => hp e.symm
        simp only [hp, hp', if_false]
        by_cases ht : p.toward = q.toward
        · simp only [ht]
        · have ht' : ¬ q.toward = p.toward := fun e => ht e.symm
          simp only [ht, ht', not_false_eq_true, if_true]
  · have hs' : ¬ q.segment = p.segment := fun e => hs e.symm
    rw [if_pos hs, if_pos hs']
    split <;> split <;> rfl
theorem conflictOf_symm (c : ChartD) (r0 : Int) (r1 : Bool) (p q : PassageD) : conflictOf c r0 r1 p q = conflictOf c r0 r1 q p := by
  unfold conflictOf; rw [conflictV_symm]
theorem conflictV_range (c : ChartD) (r0 : Int) (r1 : Bool) (p q : PassageD) : 0 ≤ conflictV c r0 r1 p q ∧ conflictV c r0 r1 p q ≤ 4 := by
  unfold conflictV
  repeat' split
  all_goals omega
theorem conflictOf_range (c : ChartD) (r0 : Int) (r1 : Bool) (p q : PassageD) : 0 ≤ conflictOf c r0 r1 p q ∧ conflictOf c r0 r1 p q ≤ 4 := by
  unfold conflictOf; split
  · exact conflictV_range ..
  · omega
theorem nearB_more {a b g g' : Int} (hg : g ≤ g') (h : nearB a b g = true) : nearB a b g' = true := by
  unfold nearB at *; simp only [decide_eq_true_eq] at *; omega
theorem conflict_strict {c : ChartD} {r0 r0' : Int} {r1 : Bool} {p q : PassageD} (hg : r0 ≤ r0') (hb : inB r0' 0 60 = true) (h : conflictOf c r0 r1 p q ≠ 0) : conflictOf c r0' true p q ≠ 0 := by
  unfold conflictOf at *
  by_cases hc : chartOk c = true
  · by_cases hb0 : inB r0 0 60 = true
    · rw [if_pos ⟨hc, hb0⟩] at h
      rw [if_pos ⟨hc, hb⟩]
      unfold conflictV at *
      by_cases h1 : inB p.segment 0 ((c.segs.length : Int) - 1) = false
      · rw [if_pos h1] at h; exact absurd rfl h
      · rw [if_neg h1] at h ⊢
        by_cases h2 : ¬ p.segment = q.segment
        · rw [if_pos h2] at h; exact absurd rfl h
        · rw [if_neg h2] at h ⊢
          by_cases h3 : p.ship = q.ship
          · rw [if_pos h3] at h ⊢; exact h
          · rw [if_neg h3] at h ⊢
            by_cases h4 : ¬ p.toward = q.toward
            · rw [if_pos h4] at h ⊢
              by_cases h5 : ovB p q = true
              · rw [if_pos ⟨h5, .inl rfl⟩]; omega
              · rw [if_neg (fun e => h5 e.1)] at h; exact absurd rfl h
            · rw [if_neg h4] at h ⊢
              by_cases h5 : nearB p.start q.start r0' = true ∨ nearB p.fin q.fin r0' = true
              · rw [if_pos h5]; omega
              · rw [if_neg h5]
                rw [if_neg (fun e => h5 (e.imp (nearB_more hg) (nearB_more hg)))] at h
                exact h
    · rw [if_neg (fun e => hb0 e.2)] at h; exact absurd rfl h
  · rw [if_neg (fun e => hc e.1)] at h; exact absurd rfl h
theorem hit_iff {c : ChartD} {r0 : Int} {r1 : Bool} {p q : PassageD} : hitB c r0 r1 p q = true ↔ conflictOf c r0 r1 p q ≠ 0 := by simp [hitB]
theorem hit_false {c : ChartD} {r0 : Int} {r1 : Bool} {p q : PassageD} : hitB c r0 r1 p q = false ↔ conflictOf c r0 r1 p q = 0 := by simp [hitB]
/-- no conflict at all, or the first one -/
theorem fc_cases (c : ChartD) (r0 : Int) (r1 : Bool) (xs : List PassageD) :
    (fcI c r0 r1 xs = -1 ∧ fcK c r0 r1 xs = -1 ∧ fcN c r0 r1 xs = 0 ∧ ∀ a b, a < b → b < xs.length → conflictOf c r0 r1 (xs.getD a default) (xs.getD b default) = 0) ∨
    (∃ i k : Nat, i < k ∧ k < xs.length ∧ fcI c r0 r1 xs = i ∧ fcK c r0 r1 xs = k ∧ fcN c r0 r1 xs ≠ 0 ∧ 0 ≤ fcN c r0 r1 xs ∧ fcN c r0 r1 xs ≤ 4 ∧ ∀ a b, a < b → b < k → conflictOf c r0 r1 (xs.getD a default) (xs.getD b default) = 0) := by
  have hrow : ∀ k, rowHas c r0 r1 xs k = false → ∀ a, a < k → conflictOf c r0 r1 (xs.getD a default) (xs.getD k default) = 0 := by
    intro k hk a ha
    unfold rowHas rowHit at hk
    by_cases hz : hitB c r0 r1 (xs.getD a default) (xs.getD k default) = true
    · exfalso
      have hr := firstUpTo_range (fun i => hitB c r0 r1 (xs.getD i default) (xs.getD k default)) k
      simp only [decide_eq_false_iff_not] at hk
      have hm : ∀ n, (∀ k', k' < n → (fun i => hitB c r0 r1 (xs.getD i default) (xs.getD k default)) k' = false) → n ≤ a := by
        intro n hn
        rcases Nat.lt_or_ge a n with h | h
        · have := hn a h; simp only at this; rw [hz] at this; cases this
        · exact h
      have hall : ∀ n, n ≤ k → firstUpTo (fun i => hitB c r0 r1 (xs.getD i default) (xs.getD k default)) n < 0 → ∀ j, j < n → hitB c r0 r1 (xs.getD j default) (xs.getD k default) = false := by
        intro n
        induction n with
        | zero => intro _ _ j hj; omega
        | succ n ih =>
          intro hn hlt j hj
          rw [firstUpTo] at hlt
          by_cases h0 : firstUpTo (fun i => hitB c r0 r1 (xs.getD i default) (xs.getD k default)) n < 0
          · rw [if_pos h0] at hlt
            by_cases e : j = n
            · subst e
              by_cases hh : hitB c r0 r1 (xs.getD j default) (xs.getD k default) = true
              · rw [if_pos hh] at hlt; omega
              · simpa using hh
            · exact ih (by omega) h0 j (by omega)
          · rw [if_neg h0] at hlt; omega
      have := hm k (hall k (Nat.le_refl _) (by omega))
      omega
    · rw [Bool.not_eq_true, hit_false] at hz; exact hz
  rcases Classical.em (∃ k, k < xs.length ∧ rowHas c r0 r1 xs k = true) with ⟨k, hk, hh⟩ | hn
  · right
    obtain ⟨k, ⟨hk, hh⟩, hmin⟩ : ∃ k, (k < xs.length ∧ rowHas c r0 r1 xs k = true) ∧ ∀ j, j < k → rowHas c r0 r1 xs j = false := by
      have : ∀ n, ∀ k, k ≤ n → k < xs.length ∧ rowHas c r0 r1 xs k = true → ∃ k, (k < xs.length ∧ rowHas c r0 r1 xs k = true) ∧ ∀ j, j < k → rowHas c r0 r1 xs j = false := by
        intro n
        induction n with
        | zero => intro k h0 hk; exact ⟨k, hk, fun j hj => by omega⟩
        | succ n ih =>
          intro k h0 hk
          rcases Classical.em (∃ j, j < k ∧ rowHas c r0 r1 xs j = true) with ⟨j, hj, hjt⟩ | hn
          · exact ih j (by omega) ⟨by omega, hjt⟩
          · exact ⟨k, hk, fun j hj => by
              cases e : rowHas c r0 r1 xs j with
              | false => rfl
              | true => exact absurd ⟨j, hj, e⟩ hn⟩
      exact this k k (Nat.le_refl _) ⟨hk, hh⟩
    have hh' := hh
    unfold rowHas at hh'
    simp only [decide_eq_true_eq] at hh'
    obtain ⟨i, hi⟩ : ∃ i : Nat, rowHit c r0 r1 xs k = i := ⟨(rowHit c r0 r1 xs k).toNat, by omega⟩
    obtain ⟨hik, hit, hbef⟩ := firstUpTo_spec (f := fun i => hitB c r0 r1 (xs.getD i default) (xs.getD k default)) hi
    obtain ⟨e1, e2, e3⟩ := fc_hit hk hik hmin hbef hit
    refine ⟨i, k, hik, hk, e1, e2, ?_, ?_, ?_, fun a b hab hbk => hrow b (hmin b hbk) a hab⟩
    · rw [e3]; exact hit_iff.1 hit
    · rw [e3]; exact (conflictOf_range ..).1
    · rw [e3]; exact (conflictOf_range ..).2
  · left
    have hall : ∀ j, j < xs.length → rowHas c r0 r1 xs j = false := fun j hj => by
      cases e : rowHas c r0 r1 xs j with
      | false => rfl
      | true => exact absurd ⟨j, hj, e⟩ hn
    obtain ⟨a, b, d⟩ := fc_none (c := c) (r0 := r0) (r1 := r1) hall
    exact ⟨a, b, d, fun x y hxy hy => hrow y (hall y hy) x hxy⟩
theorem clashes_pair {c : ChartD} {r0 : Int} {r1 : Bool} {xs : List PassageD} {a b : Nat} (ha : a < xs.length) (hb : b < xs.length) (h : conflictOf c r0 r1 xs[a] xs[b] ≠ 0) : clashesB c r0 r1 ((xs.drop a).take 1) (xs.drop b) = true := by
  unfold clashesB
  simp only [List.any_eq_true]
  refine ⟨xs[a], ?_, xs[b], ?_, hit_iff.2 h⟩
  · rw [List.drop_eq_getElem_cons ha, List.take_succ_cons]; exact List.mem_cons_self
  · rw [List.drop_eq_getElem_cons hb]; exact List.mem_cons_self
end Go.Proofs.Ytefidlecandnlaa

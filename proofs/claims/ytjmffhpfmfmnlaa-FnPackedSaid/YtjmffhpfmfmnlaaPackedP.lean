/- Laws of packing, in plain words: the whole of FnPacked. No condition. -/
import Derived.Test.YtjmffhpfmfmnlaaPrefix
import Derived.Test.YtjmffhpfmfmnlaaPackedL
import Derived.Test.YtjmffhpfmfmnlaaLeastW
import Derived.Test.YtjmffhpfmfmnlaaMostW
import Derived.Test.YtjmffhpfmfmnlaaIsPack
import Derived.Test.YtjmffhpfmfmnlaaIsPack2
namespace Go.Proofs.Ytjmffhpfmfmnlaa
open Go.RowKit
set_option linter.unusedVariables false
set_option linter.unusedSectionVars false
theorem packL_packs {L : Int} {m : Nat} : ∀ {ns : List Int} {u : Nat → Int} {d ys : List Int}, packL L m ns u d = some ys → ∃ bs : List Int, ys = d ++ bs ∧ bs.length = ns.length ∧ packsL L m ns bs u = true
  | [], u, d, ys, h => ⟨[], by simp only [packL, Option.some.injEq] at h; simp [h], rfl, rfl⟩
  | n :: ns, u, d, ys, h => by
    rw [packL] at h
    obtain ⟨k, hk, h1⟩ := firstSome_some h
    by_cases h2 : u k + n ≤ L
    · rw [if_pos h2] at h1
      obtain ⟨bs, rfl, hl, hp⟩ := packL_packs h1
      refine ⟨(k : Int) :: bs, by simp, by simp [hl], ?_⟩
      rw [packsL, Int.toNat_natCast, hp]
      simp only [inB, Bool.and_true, Bool.and_eq_true, decide_eq_true_eq]
      omega
    · rw [if_neg h2] at h1; cases h1
theorem lockFits_mk {x0 x1 x2 : Int} {ns : List Int} (h1 : chOk x0 x1 x2 = true) (h2 : lengthsOk ns = true) (hn : ∀ n ∈ ns, 0 ≤ n ∧ n ≤ x0) : lockFits x0 x1 x2 ns = true := by
  unfold lockFits fitL
  rw [h1, h2]
  simp only [Bool.and_self, Bool.true_and, List.all_eq_true, decide_eq_true_eq]
  exact fun n h => (hn n h).2
theorem lockTime_in {x0 x1 x2 n : Int} (h : chOk x0 x1 x2 = true) (h0 : 0 ≤ n) (h1 : n ≤ 20) : lockTime x0 x1 x2 n = if n = 0 then 0 else (2 * n - 1) * x2 := by
  unfold lockTime
  exact if_pos ⟨h, by simp [inB]; omega⟩
section
variable {x0 x2 : Int} {m : Nat} {ns : List Int} (h1 : chOk x0 m x2 = true) (h2 : lengthsOk ns = true) (hn : ∀ n ∈ ns, 0 ≤ n ∧ n ≤ x0)
include h1 h2 hn
theorem pk_mostE : mostShips x0 m x2 ns = (bestUp x0 m ns (2 ^ ns.length) : Int) := by
  unfold mostShips; rw [h1, h2, Int.toNat_natCast]; rfl
theorem pk_most : 0 ≤ mostShips x0 m x2 ns ∧ mostShips x0 m x2 ns ≤ ns.length := by
  rw [pk_mostE h1 h2 hn]
  have := bestUp_le x0 m ns (2 ^ ns.length)
  omega
theorem pk_all : (packShips x0 m x2 ns).isSome = decide (mostShips x0 m x2 ns = (ns.length : Int)) := by
  rw [packShips_some h1 h2, pk_mostE h1 h2 hn, Bool.eq_iff_iff, decide_eq_true_eq]
  have hp := Nat.two_pow_pos ns.length
  have hle := bestUp_le x0 m ns (2 ^ ns.length)
  constructor
  · intro h
    have := bestUp_ge (L := x0) (m := m) (l := ns) (n := 2 ^ ns.length) (b := 2 ^ ns.length - 1) (by omega) (by rw [subL_all]; exact h)
    rw [subL_all] at this; omega
  · intro h
    rcases bestUp_is (L := x0) (m := m) (l := ns) (n := 2 ^ ns.length) with e | ⟨b, _, hc, e⟩
    · have : ns = [] := List.eq_nil_of_length_eq_zero (by omega)
      subst this; rfl
    · have hs := (subL_sub ns b).eq_of_length (by omega)
      rw [hs] at hc; exact hc
theorem pk_packing (h : (packShips x0 m x2 ns).isSome = true) : isPacking x0 m x2 ns ((packShips x0 m x2 ns).getD []) = true := by
  have e0 : packShips x0 m x2 ns = packL x0 m ns zeroU [] := by unfold packShips; rw [h1, h2, Int.toNat_natCast]; rfl
  rw [e0] at h ⊢
  cases e : packL x0 m ns zeroU [] with
  | none => rw [e] at h; cases h
  | some ys =>
    obtain ⟨bs, rfl, hl, hp⟩ := packL_packs e
    unfold isPacking
    rw [h1, h2, Int.toNat_natCast]
    simp only [Option.getD_some, List.nil_append, Bool.true_and, hp, hl, decide_true]
theorem pk_leastE : leastLockings x0 m x2 ns = leastF (fitB x0 m ns) ns.length (2 ^ ns.length - 1) := by
  unfold leastLockings; rw [lockFits_mk h1 h2 hn, if_pos rfl, Int.toNat_natCast]
theorem pk_prefE : prefixLockings x0 m x2 ns = prefL x0 m ns := by
  unfold prefixLockings; rw [lockFits_mk h1 h2 hn, if_pos rfl, Int.toNat_natCast]
theorem pk_least (hm : 1 ≤ m) : 0 ≤ leastLockings x0 m x2 ns ∧ leastLockings x0 m x2 ns ≤ ((prefixLockings x0 m x2 ns).length : Int) ∧ (ns.length : Int) ≤ leastLockings x0 m x2 ns * mostShips x0 m x2 ns ∧ decide (leastLockings x0 m x2 ns ≤ 1) = (packShips x0 m x2 ns).isSome := by
  have hp := Nat.two_pow_pos ns.length
  obtain ⟨hL0, -⟩ := chOk_of h1
  rw [pk_leastE h1 h2 hn, pk_prefE h1 h2 hn, pk_mostE h1 h2 hn, packShips_some h1 h2]
  refine ⟨(leastF_bd _ _ (by omega) _).1, ?_, ?_, ?_⟩
  · have := least_le_pref (L := x0) (m := m) (l := ns) hm hn ns.length ns.length 0 (by omega)
    simpa using this
  · have := pop_le (L := x0) (m := m) (l := ns) hm (by omega) hn rfl (2 ^ ns.length - 1) (by omega)
    rw [subL_all] at this; exact this
  · rw [Bool.eq_iff_iff, decide_eq_true_eq]; exact least_one hm hn
theorem pk_time {a b : Int} (ha : 0 ≤ a) (hab : a ≤ b) (hb : b ≤ 20) : lockTime x0 m x2 a ≤ lockTime x0 m x2 b := by
  obtain ⟨-, -, -, -, hT0, hT1⟩ := chOk_of h1
  rw [lockTime_in h1 ha (by omega), lockTime_in h1 (by omega) hb]
  by_cases e : b = 0
  · rw [if_pos (by omega), if_pos e]; omega
  · rw [if_neg e]
    have hbp := Int.mul_nonneg (show 0 ≤ 2 * b - 1 by omega) (show 0 ≤ x2 by omega)
    by_cases e2 : a = 0
    · rw [if_pos e2]; exact hbp
    · rw [if_neg e2]; exact Int.mul_le_mul_of_nonneg_right (by omega) (by omega)
end
/-- a step through the lockings in order -/
theorem pref_step {L : Int} {m : Nat} {l p : List Int} {k s : Nat} (hm : 1 ≤ m) (hn : ∀ n ∈ l, 0 ≤ n ∧ n ≤ L) (hs : s ≤ l.length) (h : p.drop k = prefL L m (l.drop s)) (hk : k < p.length) :
    ∃ g : Nat, p[k] = (g : Int) ∧ 1 ≤ g ∧ s + g ≤ l.length ∧ canPack L m ((l.drop s).take g) = true ∧ p.drop (k + 1) = prefL L m (l.drop (s + g)) := by
  have hpos : 0 < (l.drop s).length := by
    rcases Nat.eq_zero_or_pos (l.drop s).length with e | e
    · rw [List.eq_nil_of_length_eq_zero e, prefL_nil] at h
      have := congrArg List.length h
      simp at this; omega
    · exact e
  rw [List.drop_eq_getElem_cons hk, prefL_cons hpos] at h
  simp only [List.cons.injEq] at h
  have hg1 := growN_ge (L := L) (m := m) (ns := l.drop s) (n := 1)
  have hg2 := growN_le (L := L) (m := m) (ns := l.drop s) (n := 1) (by omega)
  rw [List.length_drop] at hg2
  refine ⟨_, h.1, hg1, by rw [List.length_drop] at hpos; omega, growN_packs (canPack_take1 hm fun n hh => hn n (List.mem_of_mem_drop hh)), ?_⟩
  rw [h.2, List.drop_drop]
theorem pref_end {L : Int} {m : Nat} {l p : List Int} {k s : Nat} (hs : s ≤ l.length) (h : p.drop k = prefL L m (l.drop s)) (hk : p.length ≤ k) : s = l.length := by
  rw [List.drop_eq_nil_of_le hk] at h
  rcases Nat.eq_zero_or_pos (l.drop s).length with e | e
  · rw [List.length_drop] at e; omega
  · rw [prefL_cons e] at h; cases h
end Go.Proofs.Ytjmffhpfmfmnlaa

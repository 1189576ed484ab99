/- How many lockings, in plain words: the lockings of the ships in their order, and the least number for each set of ships. No condition. -/
import Derived.Test.YtjfppjhlkeopnaaMostL
namespace Go.Proofs.Ytjfppjhlkeopnaa
set_option linter.unusedVariables false
/-- how many of the first ships go together, from n on -/
def growN (L : Int) (m : Nat) (ns : List Int) (n : Nat) : Nat :=
  if h : n < ns.length ∧ canPack L m (ns.take (n + 1)) = true then growN L m ns (n + 1) else n
termination_by ns.length - n
theorem growN_step {L : Int} {m : Nat} {ns : List Int} {n : Nat} (h : n < ns.length) (h2 : canPack L m (ns.take (n + 1)) = true) : growN L m ns n = growN L m ns (n + 1) := by
  rw [growN, dif_pos ⟨h, h2⟩]
theorem growN_stop {L : Int} {m : Nat} {ns : List Int} {n : Nat} (h : ¬ (n < ns.length ∧ canPack L m (ns.take (n + 1)) = true)) : growN L m ns n = n := by
  rw [growN, dif_neg h]
theorem growN_ge {L : Int} {m : Nat} {ns : List Int} {n : Nat} : n ≤ growN L m ns n := by
  by_cases h : n < ns.length ∧ canPack L m (ns.take (n + 1)) = true
  · rw [growN_step h.1 h.2]; have := growN_ge (L := L) (m := m) (ns := ns) (n := n + 1); omega
  · rw [growN_stop h]; exact Nat.le_refl _
termination_by ns.length - n
theorem growN_le {L : Int} {m : Nat} {ns : List Int} {n : Nat} (hn : n ≤ ns.length) : growN L m ns n ≤ ns.length := by
  by_cases h : n < ns.length ∧ canPack L m (ns.take (n + 1)) = true
  · rw [growN_step h.1 h.2]; exact growN_le (by omega)
  · rw [growN_stop h]; exact hn
termination_by ns.length - n
theorem growN_packs {L : Int} {m : Nat} {ns : List Int} {n : Nat} (hn : canPack L m (ns.take n) = true) : canPack L m (ns.take (growN L m ns n)) = true := by
  by_cases h : n < ns.length ∧ canPack L m (ns.take (n + 1)) = true
  · rw [growN_step h.1 h.2]; exact growN_packs h.2
  · rw [growN_stop h]; exact hn
termination_by ns.length - n
/-- the lockings of the ships in their order -/
def prefL (L : Int) (m : Nat) (ns : List Int) : List Int :=
  if h : 0 < ns.length then (growN L m ns 1 : Int) :: prefL L m (ns.drop (growN L m ns 1)) else []
termination_by ns.length
decreasing_by
  have := growN_ge (L := L) (m := m) (ns := ns) (n := 1)
  simp only [List.length_drop]; omega
theorem prefL_nil {L : Int} {m : Nat} : prefL L m [] = [] := by rw [prefL]; simp
theorem prefL_cons {L : Int} {m : Nat} {ns : List Int} (h : 0 < ns.length) : prefL L m ns = (growN L m ns 1 : Int) :: prefL L m (ns.drop (growN L m ns 1)) := by
  rw [prefL, dif_pos h]
theorem prefL_length {L : Int} {m : Nat} (ns : List Int) : (prefL L m ns).length ≤ ns.length := by
  by_cases h : 0 < ns.length
  · rw [prefL_cons h]
    have h1 := growN_ge (L := L) (m := m) (ns := ns) (n := 1)
    have := prefL_length (L := L) (m := m) (ns.drop (growN L m ns 1))
    simp only [List.length_drop, List.length_cons] at *; omega
  · rw [prefL, dif_neg h]; simp
termination_by ns.length
decreasing_by
  have := growN_ge (L := L) (m := m) (ns := ns) (n := 1)
  simp only [List.length_drop]; omega

/-- the inner search: the parts of a set, from 'part' down -/
def partLoop (fit : Nat → Bool) (g : Nat → Int) (set : Nat) (part : Nat) (acc : Int) : Int :=
  if h : part = 0 then acc else partLoop fit g set ((part - 1) &&& set) (if fit part = true then min acc (1 + g (set - part)) else acc)
termination_by part
decreasing_by
  have := @Nat.and_le_left (part - 1) set
  omega
theorem partLoop_zero {fit : Nat → Bool} {g : Nat → Int} {set : Nat} {acc : Int} : partLoop fit g set 0 acc = acc := by rw [partLoop]; simp
theorem partLoop_step {fit : Nat → Bool} {g : Nat → Int} {set part : Nat} {acc : Int} (h : part ≠ 0) : partLoop fit g set part acc = partLoop fit g set ((part - 1) &&& set) (if fit part = true then min acc (1 + g (set - part)) else acc) := by rw [partLoop, dif_neg h]
theorem and_lt_of {part set : Nat} (h : part ≠ 0) : (part - 1) &&& set < part := by
  have := @Nat.and_le_left (part - 1) set
  omega
theorem partLoop_congr {fit fit' : Nat → Bool} {g g' : Nat → Int} {set : Nat} (hf : ∀ p, 0 < p → p ≤ set → fit p = fit' p) (hg : ∀ p, p < set → g p = g' p) (part : Nat) (acc : Int) (hp : part ≤ set) : partLoop fit g set part acc = partLoop fit' g' set part acc := by
  by_cases h : part = 0
  · subst h; rw [partLoop_zero, partLoop_zero]
  · rw [partLoop_step h, partLoop_step h, hf part (by omega) hp, hg (set - part) (by omega)]
    have := and_lt_of (set := set) h
    exact partLoop_congr hf hg _ _ (by omega)
termination_by part
decreasing_by exact and_lt_of h
/-- the table of the sets up to n -/
def leastTab (fit : Nat → Bool) (len : Int) : Nat → List Int
  | 0 => [0]
  | n + 1 => leastTab fit len n ++ [partLoop fit (fun i => (leastTab fit len n).getD i 0) (n + 1) (n + 1) len]
theorem leastTab_length (fit : Nat → Bool) (len : Int) : ∀ n, (leastTab fit len n).length = n + 1
  | 0 => rfl
  | n + 1 => by rw [leastTab]; simp [leastTab_length fit len n]
def leastF (fit : Nat → Bool) (len : Int) (n : Nat) : Int := (leastTab fit len n).getD n 0
theorem leastTab_get (fit : Nat → Bool) (len : Int) : ∀ {n i : Nat}, i ≤ n → (leastTab fit len n).getD i 0 = leastF fit len i
  | 0, i, h => by obtain rfl : i = 0 := by omega
                  rfl
  | n + 1, i, h => by
    by_cases e : i = n + 1
    · subst e; rfl
    · have hl := leastTab_length fit len n
      rw [leastTab, List.getD_eq_getElem?_getD, List.getElem?_append_left (by omega), ← List.getD_eq_getElem?_getD]
      exact leastTab_get fit len (by omega)
theorem leastF_zero (fit : Nat → Bool) (len : Int) : leastF fit len 0 = 0 := rfl
theorem leastF_succ (fit : Nat → Bool) (len : Int) (n : Nat) : leastF fit len (n + 1) = partLoop fit (leastF fit len) (n + 1) (n + 1) len := by
  have hl := leastTab_length fit len n
  show (leastTab fit len (n + 1)).getD (n + 1) 0 = _
  rw [leastTab, List.getD_eq_getElem?_getD, List.getElem?_append_right (by omega), hl, Nat.sub_self]
  show partLoop _ _ _ _ _ = _
  exact partLoop_congr (fun _ _ _ => rfl) (fun p hp => leastTab_get fit len (by omega)) _ _ (Nat.le_refl _)
theorem partLoop_le {fit : Nat → Bool} {g : Nat → Int} {set : Nat} (part : Nat) (acc : Int) : partLoop fit g set part acc ≤ acc := by
  by_cases h : part = 0
  · subst h; rw [partLoop_zero]; omega
  · rw [partLoop_step h]
    have := partLoop_le (fit := fit) (g := g) (set := set) ((part - 1) &&& set) (if fit part = true then min acc (1 + g (set - part)) else acc)
    refine Int.le_trans this ?_; split <;> omega
termination_by part
decreasing_by exact and_lt_of h
theorem partLoop_ge {fit : Nat → Bool} {g : Nat → Int} {set : Nat} {c : Int} (hg : ∀ p, p < set → c ≤ 1 + g p) (part : Nat) (acc : Int) (hc : c ≤ acc) (hs : part ≤ set) : c ≤ partLoop fit g set part acc := by
  by_cases h : part = 0
  · subst h; rw [partLoop_zero]; exact hc
  · rw [partLoop_step h]
    have h1 := hg (set - part) (by omega)
    have := and_lt_of (set := set) h
    refine partLoop_ge hg _ _ ?_ (by omega)
    split <;> omega
termination_by part
decreasing_by exact and_lt_of h
theorem leastF_bd (fit : Nat → Bool) (len : Int) (h : 0 ≤ len) (n : Nat) : 0 ≤ leastF fit len n ∧ leastF fit len n ≤ len := by
  induction n using Nat.strongRecOn with
  | _ n ih =>
    cases n with
    | zero => rw [leastF_zero]; omega
    | succ n =>
      rw [leastF_succ]
      refine ⟨partLoop_ge (fun p hp => by have := (ih p hp).1; omega) _ _ h (Nat.le_refl _), partLoop_le _ _⟩
end Go.Proofs.Ytjfppjhlkeopnaa

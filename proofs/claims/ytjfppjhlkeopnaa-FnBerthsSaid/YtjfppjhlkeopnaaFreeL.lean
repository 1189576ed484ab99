/- Free times of a berth, in plain words. No condition. -/
import Derived.Test.YtjfppjhlkeopnaaCntL
import Derived.Test.YtjfppjhlkeopnaaStays
namespace Go.Proofs.Ytjfppjhlkeopnaa
open Go.RowKit
set_option linter.unusedVariables false
/-- the windows that the first stays take at a berth -/
def takenTo (ys : List StayD) (b : Int) : Nat → List WindowD
  | 0 => []
  | k + 1 => takenTo ys b k ++ if (ys.getD k default).berth = b ∧ (ys.getD k default).start < (ys.getD k default).fin then [⟨(ys.getD k default).start, (ys.getD k default).fin - 1⟩] else []
theorem takenTo_len (ys : List StayD) (b : Int) : ∀ k, (takenTo ys b k).length ≤ k
  | 0 => by simp [takenTo]
  | k + 1 => by
    have := takenTo_len ys b k
    rw [takenTo, List.length_append]
    split <;> simp <;> omega
/-! ### windows that cover a minute, counted -/
def beg1 (u : WindowD) (j : Nat) : Int := if max u.start 0 ≤ min u.fin 2880 then (if (j : Int) = max u.start 0 then 1 else 0) - (if (j : Int) = min u.fin 2880 + 1 then 1 else 0) else 0
def begAt : List WindowD → Nat → Int
  | [], _ => 0
  | u :: us, j => beg1 u j + begAt us j
def covTo (b : Nat → Int) : Nat → Int
  | 0 => 0
  | m + 1 => covTo b m + b m
theorem begAt_snoc (us : List WindowD) (u : WindowD) (j : Nat) : begAt (us ++ [u]) j = begAt us j + beg1 u j := by
  induction us with
  | nil => simp [begAt]
  | cons a us ih => simp only [List.cons_append, begAt, ih]; omega
theorem beg1_range (u : WindowD) (j : Nat) : -1 ≤ beg1 u j ∧ beg1 u j ≤ 1 := by unfold beg1; split <;> (try split) <;> (try split) <;> omega
theorem begAt_range (us : List WindowD) (j : Nat) : -(us.length : Int) ≤ begAt us j ∧ begAt us j ≤ us.length := by
  induction us with
  | nil => simp [begAt]
  | cons a us ih => have := beg1_range a j; simp only [begAt, List.length_cons]; omega
theorem cov1 (u : WindowD) : ∀ m : Nat, covTo (beg1 u) m = if max u.start 0 ≤ min u.fin 2880 then (if max u.start 0 < (m : Int) then 1 else 0) - (if min u.fin 2880 + 1 < (m : Int) then 1 else 0) else 0
  | 0 => by
    rw [covTo]
    split
    · rw [if_neg (by omega), if_neg (by omega)]; rfl
    · rfl
  | m + 1 => by
    rw [covTo, cov1 u m]
    unfold beg1
    split
    · generalize max u.start 0 = a at *
      generalize min u.fin 2880 = b at *
      split <;> split <;> split <;> split <;> split <;> split <;> omega
    · rfl
theorem cov_add (f g : Nat → Int) : ∀ m, covTo (fun j => f j + g j) m = covTo f m + covTo g m
  | 0 => rfl
  | m + 1 => by rw [covTo, covTo, covTo, cov_add f g m]; omega
theorem cov_zero : ∀ m, covTo (fun _ => 0) m = 0
  | 0 => rfl
  | m + 1 => by rw [covTo, cov_zero m]; rfl
theorem cov_range (us : List WindowD) (m : Nat) : 0 ≤ covTo (begAt us) m ∧ covTo (begAt us) m ≤ us.length := by
  induction us with
  | nil => rw [show begAt [] = fun _ => 0 from rfl, cov_zero]; simp
  | cons a us ih =>
    rw [show begAt (a :: us) = fun j => beg1 a j + begAt us j from rfl, cov_add, cov1]
    simp only [List.length_cons]
    split
    · generalize max a.start 0 = x at *
      generalize min a.fin 2880 = y at *
      split <;> split <;> omega
    · omega
theorem cov_has (us : List WindowD) {m : Nat} (hm : m ≤ 2880) : 0 < covTo (begAt us) (m + 1) ↔ hasMin us m = true := by
  induction us with
  | nil => rw [show begAt [] = fun _ => 0 from rfl, cov_zero]; simp [hasMin]
  | cons a us ih =>
    have hr := cov_range us (m + 1)
    rw [show begAt (a :: us) = fun j => beg1 a j + begAt us j from rfl, cov_add, cov1]
    have e : (hasMin (a :: us) m = true) ↔ (a.start ≤ m ∧ (m : Int) ≤ a.fin) ∨ hasMin us m = true := by
      unfold hasMin; rw [List.any_cons, Bool.or_eq_true]; simp [inB]
    rw [e, ← ih]
    have h1 : (if max a.start 0 ≤ min a.fin 2880 then (if max a.start 0 < ((m + 1 : Nat) : Int) then (1 : Int) else 0) - (if min a.fin 2880 + 1 < ((m + 1 : Nat) : Int) then 1 else 0) else 0) = if a.start ≤ m ∧ (m : Int) ≤ a.fin then 1 else 0 := by
      by_cases c : a.start ≤ m ∧ (m : Int) ≤ a.fin
      · rw [if_pos c, if_pos (by omega), if_pos (by omega), if_neg (by omega)]; rfl
      · rw [if_neg c]
        split
        · by_cases d : max a.start 0 < ((m + 1 : Nat) : Int)
          · rw [if_pos d, if_pos (by omega)]; rfl
          · rw [if_neg d, if_neg (by omega)]; rfl
        · rfl
    rw [h1]
    split
    · rename_i c; exact ⟨fun _ => .inl c, fun _ => by omega⟩
    · rename_i c
      constructor
      · intro h; exact .inr (by omega)
      · rintro (h | h)
        · exact absurd h c
        · omega
/-- the windows of the minutes that are in an element -/
def gatherL (us : List WindowD) : List WindowD := winsTo (fun m => hasMin us (m : Int)) 2881
theorem winsTo_congr {f g : Nat → Bool} : ∀ {n : Nat}, (∀ m, m < n → f m = g m) → winsTo f n = winsTo g n
  | 0, _ => rfl
  | n + 1, h => by rw [winsTo, winsTo, winsTo_congr (n := n) (fun m hm => h m (by omega)), h n (by omega)]
theorem gather_cov (us : List WindowD) : winsTo (fun m => decide (0 < covTo (begAt us) (m + 1))) 2881 = gatherL us :=
  winsTo_congr fun m hm => by rw [Bool.eq_iff_iff, decide_eq_true_eq]; exact cov_has us (by omega)
/-! ### all other minutes -/
def atTo (xs : List WindowD) : Nat → Int
  | 0 => 0
  | k + 1 => (xs.getD k default).fin + 1
def gapsTo (xs : List WindowD) : Nat → List WindowD
  | 0 => []
  | k + 1 => gapsTo xs k ++ if atTo xs k < (xs.getD k default).start then [⟨atTo xs k, (xs.getD k default).start - 1⟩] else []
def otherL (xs : List WindowD) : List WindowD := gapsTo xs xs.length ++ if atTo xs xs.length ≤ 2880 then [⟨atTo xs xs.length, 2880⟩] else []
theorem gapsTo_len (xs : List WindowD) : ∀ k, (gapsTo xs k).length ≤ k
  | 0 => by simp [gapsTo]
  | k + 1 => by
    have := gapsTo_len xs k
    rw [gapsTo, List.length_append]
    split <;> simp <;> omega
theorem otherL_len (xs : List WindowD) : (otherL xs).length ≤ xs.length + 1 := by
  have := gapsTo_len xs xs.length
  unfold otherL
  rw [List.length_append]
  split <;> simp <;> omega
theorem atTo_range {xs : List WindowD} (h : WinOk xs 2881) : ∀ k, k ≤ xs.length → 0 ≤ atTo xs k ∧ atTo xs k ≤ 2881
  | 0, _ => by simp [atTo]
  | k + 1, hk => by
    have := h.1 k (by omega)
    rw [atTo, getD_at (show k < xs.length by omega)]; omega
/-- with one more element behind the day -/
def dayEnd : WindowD := ⟨2881, 2881⟩
theorem atTo_end (xs : List WindowD) : ∀ k, k ≤ xs.length → atTo (xs ++ [dayEnd]) k = atTo xs k
  | 0, _ => rfl
  | k + 1, hk => by
    rw [atTo, atTo]
    congr 2
    simp [List.getD, List.getElem?_append_left (show k < xs.length by omega)]
theorem gapsTo_end (xs : List WindowD) : ∀ k, k ≤ xs.length → gapsTo (xs ++ [dayEnd]) k = gapsTo xs k
  | 0, _ => rfl
  | k + 1, hk => by
    rw [gapsTo, gapsTo, gapsTo_end xs k (by omega), atTo_end xs k (by omega)]
    have : (xs ++ [dayEnd]).getD k default = xs.getD k default := by simp [List.getD, List.getElem?_append_left (show k < xs.length by omega)]
    rw [this]
theorem other_end (xs : List WindowD) : gapsTo (xs ++ [dayEnd]) (xs ++ [dayEnd]).length = otherL xs := by
  have e : (xs ++ [dayEnd]).length = xs.length + 1 := by simp
  rw [e, gapsTo, gapsTo_end xs _ (Nat.le_refl _), atTo_end xs _ (Nat.le_refl _)]
  have : (xs ++ [dayEnd]).getD xs.length default = dayEnd := by simp [List.getD]
  rw [this]
  unfold otherL
  congr 1
  show (if atTo xs xs.length < 2881 then [(⟨atTo xs xs.length, 2881 - 1⟩ : WindowD)] else []) = _
  by_cases h : atTo xs xs.length ≤ 2880
  · rw [if_pos h, if_pos (by omega)]; rfl
  · rw [if_neg h, if_neg (by omega)]
def freeL (bs : List BerthD) (ys : List StayD) (b : Int) : List WindowD := if (berthsOk bs && inB b 0 ((bs.length : Int) - 1)) = true then otherL (gatherL (takenTo ys b ys.length)) else []
/-! ### minutes free -/
theorem gaps_ok {xs : List WindowD} (h : WinOk xs 2881) : ∀ k, k ≤ xs.length → WinOk (gapsTo xs k) 2881 ∧ (∀ x ∈ gapsTo xs k, x.fin + 1 < atTo xs k) ∧ ∀ m : Int, hasMin (gapsTo xs k) m = true ↔ 0 ≤ m ∧ m < atTo xs k ∧ ∀ i (hi : i < xs.length), i < k → ¬ (xs[i].start ≤ m ∧ m ≤ xs[i].fin)
  | 0, _ => by
    refine ⟨⟨fun i hi => by simp [gapsTo] at hi, fun i hi => by simp [gapsTo] at hi⟩, fun x hx => by simp [gapsTo] at hx, fun m => ?_⟩
    constructor
    · intro hm; simp [gapsTo, hasMin] at hm
    · rintro ⟨h1, h2, -⟩; simp [atTo] at h2; omega
  | k + 1, hk => by
    obtain ⟨⟨o1, o2⟩, h2, h3⟩ := gaps_ok h k (by omega)
    have hkl : k < xs.length := by omega
    have hat := atTo_range h k (by omega)
    have hx := h.1 k hkl
    have hge : atTo xs k ≤ xs[k].start := by
      cases k with
      | zero => simp [atTo]; omega
      | succ j =>
        have := h.2 j (by omega)
        rw [atTo, getD_at (show j < xs.length by omega)]; omega
    have ea : atTo xs (k + 1) = xs[k].fin + 1 := by rw [atTo, getD_at hkl]
    have eg : gapsTo xs (k + 1) = gapsTo xs k ++ if atTo xs k < xs[k].start then [⟨atTo xs k, xs[k].start - 1⟩] else [] := by rw [gapsTo, getD_at hkl]
    have hm0 : ∀ m : Int, hasMin (gapsTo xs (k + 1)) m = true ↔ hasMin (gapsTo xs k) m = true ∨ (atTo xs k ≤ m ∧ m < xs[k].start) := by
      intro m
      rw [eg]
      unfold hasMin
      rw [List.any_append, Bool.or_eq_true]
      refine or_congr Iff.rfl ?_
      split
      · simp [inB]; omega
      · simp; omega
    have hm1 : ∀ m : Int, hasMin (gapsTo xs (k + 1)) m = true ↔ 0 ≤ m ∧ m < atTo xs (k + 1) ∧ ∀ i (hi : i < xs.length), i < k + 1 → ¬ (xs[i].start ≤ m ∧ m ≤ xs[i].fin) := by
      intro m
      rw [hm0, h3, ea]
      constructor
      · rintro (⟨a, b, c⟩ | ⟨a, b⟩)
        · exact ⟨a, by omega, fun i hi hlt => by
            by_cases e : i = k
            · subst e; omega
            · exact c i hi (by omega)⟩
        · refine ⟨by omega, by omega, fun i hi hlt => ?_⟩
          by_cases e : i = k
          · subst e; omega
          · obtain ⟨j, rfl⟩ : ∃ j, k = j + 1 := ⟨k - 1, by omega⟩
            have e2 : atTo xs (j + 1) = xs[j].fin + 1 := by rw [atTo, getD_at (show j < xs.length by omega)]
            by_cases e3 : i = j
            · subst e3; omega
            · have := pairA h j (by omega) i (by omega)
              have := h.1 j (by omega)
              omega
      · rintro ⟨a, b, c⟩
        by_cases d : m < atTo xs k
        · exact .inl ⟨a, d, fun i hi hlt => c i hi (by omega)⟩
        · have := c k hkl (by omega)
          exact .inr ⟨by omega, by omega⟩
    refine ⟨?_, ?_, hm1⟩
    · rw [eg]
      split
      · rename_i hlt
        refine ⟨fun i hi => ?_, fun i hi => ?_⟩
        · rw [List.getElem_append]
          split
          · rename_i hl; exact o1 i hl
          · simp only [List.getElem_singleton]; omega
        · rw [List.length_append] at hi
          simp only [List.length_singleton] at hi
          rw [List.getElem_append, List.getElem_append]
          rw [dif_pos (by omega)]
          split
          · rename_i hl; exact o2 i hl
          · simp only [List.getElem_singleton]
            exact h2 _ (List.getElem_mem (show i < (gapsTo xs k).length by omega))
      · rw [List.append_nil]; exact ⟨o1, o2⟩
    · intro x hxm
      rw [eg, List.mem_append] at hxm
      rw [ea]
      rcases hxm with hxm | hxm
      · have := h2 x hxm; omega
      · split at hxm
        · rw [List.mem_singleton] at hxm; subst hxm; simp only; omega
        · simp at hxm
theorem other_ok {xs : List WindowD} (h : WinOk xs 2881) : WinOk (otherL xs) 2881 ∧ ∀ m : Int, hasMin (otherL xs) m = true ↔ 0 ≤ m ∧ m ≤ 2880 ∧ hasMin xs m = false := by
  obtain ⟨⟨o1, o2⟩, h2, h3⟩ := gaps_ok h xs.length (Nat.le_refl _)
  have hat := atTo_range h xs.length (Nat.le_refl _)
  have hno : ∀ m : Int, hasMin xs m = false ↔ ∀ i (hi : i < xs.length), i < xs.length → ¬ (xs[i].start ≤ m ∧ m ≤ xs[i].fin) := by
    intro m
    constructor
    · intro e i hi _ hc
      rw [hasMin_iff.2 ⟨i, hi, hc⟩] at e; cases e
    · intro hc
      cases e : hasMin xs m with
      | false => rfl
      | true => obtain ⟨i, hi, h4⟩ := hasMin_iff.1 e; exact absurd h4 (hc i hi hi)
  have hlast : ∀ (i : Nat) (hi : i < xs.length), xs[i].fin + 1 ≤ atTo xs xs.length := by
    intro i hi
    obtain ⟨n, hn⟩ : ∃ n, xs.length = n + 1 := ⟨xs.length - 1, by omega⟩
    have e : atTo xs xs.length = (xs[n]'(by omega)).fin + 1 := by
      have e1 : atTo xs xs.length = atTo xs (n + 1) := congrArg (atTo xs) hn
      rw [e1, atTo, getD_at (show n < xs.length by omega)]
    by_cases e2 : i = n
    · subst e2; omega
    · have := pairA h n (by omega) i (by omega)
      have := h.1 n (by omega)
      omega
  unfold otherL
  constructor
  · split
    · rename_i hlt
      refine ⟨fun i hi => ?_, fun i hi => ?_⟩
      · rw [List.getElem_append]
        split
        · rename_i hl; exact o1 i hl
        · simp only [List.getElem_singleton]; omega
      · rw [List.length_append] at hi
        simp only [List.length_singleton] at hi
        rw [List.getElem_append, List.getElem_append]
        rw [dif_pos (by omega)]
        split
        · rename_i hl; exact o2 i hl
        · simp only [List.getElem_singleton]
          exact h2 _ (List.getElem_mem (show i < (gapsTo xs xs.length).length by omega))
    · rw [List.append_nil]; exact ⟨o1, o2⟩
  · intro m
    rw [hno]
    have e : hasMin (gapsTo xs xs.length ++ if atTo xs xs.length ≤ 2880 then [⟨atTo xs xs.length, 2880⟩] else []) m = true ↔ hasMin (gapsTo xs xs.length) m = true ∨ (atTo xs xs.length ≤ m ∧ m ≤ 2880) := by
      unfold hasMin
      rw [List.any_append, Bool.or_eq_true]
      refine or_congr Iff.rfl ?_
      split
      · simp [inB]
      · simp; omega
    rw [e, h3]
    constructor
    · rintro (⟨a, b, c⟩ | ⟨a, b⟩)
      · exact ⟨a, by omega, c⟩
      · exact ⟨by omega, b, fun i hi _ => by have := hlast i hi; omega⟩
    · rintro ⟨a, b, c⟩
      by_cases d : m < atTo xs xs.length
      · exact .inl ⟨a, d, c⟩
      · exact .inr ⟨by omega, b⟩
theorem cntN_not (p : Nat → Bool) : ∀ n, cntN (fun i => !p i) n + cntN p n = n
  | 0 => rfl
  | n + 1 => by
    have := cntN_not p n
    rw [cntN, cntN]
    cases e : p n <;> simp [e] <;> omega
theorem cntN_congr {p q : Nat → Bool} : ∀ {n : Nat}, (∀ i, i < n → p i = q i) → cntN p n = cntN q n
  | 0, _ => rfl
  | n + 1, h => by rw [cntN, cntN, cntN_congr (n := n) (fun i hi => h i (by omega)), h n (by omega)]
/-- the minutes that are free and those that are taken -/
theorem free_count (us : List WindowD) : cntW (otherL (gatherL us)) + (cntN (fun i => hasMin us (i : Int)) 2881 : Nat) = 2881 := by
  have hw : WinOk (gatherL us) 2881 := winsTo_ok _ 2881
  obtain ⟨h1, h2⟩ := other_ok hw
  rw [cntW_nat (B := 2881) (winOk_mem h1).1 (winOk_mem h1).2]
  have e : cntN (fun i : Nat => hasMin (otherL (gatherL us)) (i : Int)) 2881 = cntN (fun i : Nat => !hasMin us (i : Int)) 2881 := cntN_congr fun i hi => by
    rw [Bool.eq_iff_iff, h2]
    have h3 := winsTo_has (fun m => hasMin us (m : Int)) 2881 (i : Int)
    simp only [Int.toNat_natCast] at h3
    have h4 : hasMin (gatherL us) (i : Int) = hasMin us (i : Int) := by
      rw [Bool.eq_iff_iff]; unfold gatherL; rw [h3]
      exact ⟨fun h => h.2.2, fun h => ⟨by omega, by omega, h⟩⟩
    rw [h4]
    cases hasMin us (i : Int) <;> simp <;> omega
  rw [e]
  have := cntN_not (fun i : Nat => hasMin us (i : Int)) 2881
  omega
end Go.Proofs.Ytjfppjhlkeopnaa

/- Minutes of windows counted, in plain words. No condition. -/
import Derived.Test.YtjfppjhlkeopnaaWin3
namespace Go.Proofs.Ytjfppjhlkeopnaa
open Go.RowKit
set_option linter.unusedVariables false
theorem hasMin_iff {xs : List WindowD} {m : Int} : hasMin xs m = true ↔ ∃ i, ∃ h : i < xs.length, xs[i].start ≤ m ∧ m ≤ xs[i].fin := by
  unfold hasMin
  rw [List.any_eq_true]
  constructor
  · rintro ⟨x, hx, h⟩
    obtain ⟨i, hi, rfl⟩ := List.getElem_of_mem hx
    simp [inB] at h
    exact ⟨i, hi, h⟩
  · rintro ⟨i, hi, h⟩
    exact ⟨_, List.getElem_mem hi, by simp [inB]; exact h⟩
theorem pairA {xs : List WindowD} {B : Int} (h : WinOk xs B) : ∀ j (hj : j < xs.length) i (hi : i < j), xs[i].fin + 1 < xs[j].start := by
  intro j
  induction j with
  | zero => intro _ i hi; omega
  | succ j ih =>
    intro hj i hi
    by_cases e : i = j
    · subst e; exact h.2 i hj
    · have h1 := ih (by omega) i (by omega)
      have h2 := h.2 j hj
      have h3 := h.1 j (by omega)
      omega
theorem winsTo_has (acc : Nat → Bool) : ∀ M : Nat, ∀ i : Int, hasMin (winsTo acc M) i = true ↔ 0 ≤ i ∧ i < M ∧ acc i.toNat = true
  | 0, i => by
    constructor
    · intro h; simp [winsTo, hasMin] at h
    · rintro ⟨h1, h2, -⟩; omega
  | M + 1, i => by
    have ih := winsTo_has acc M i
    rw [hasMin_iff] at ih
    cases ha : acc M
    · rw [winsTo_skip ha, hasMin_iff, ih]
      constructor
      · rintro ⟨h1, h2, h3⟩; exact ⟨h1, by omega, h3⟩
      · rintro ⟨h1, h2, h3⟩
        by_cases e : i = M
        · subst e; rw [Int.toNat_natCast, ha] at h3; cases h3
        · exact ⟨h1, by omega, h3⟩
    · have hok := winsTo_ok acc M
      cases hl : lastAt (winsTo acc M) ((M : Int) - 1)
      · rw [winsTo_new ha hl]
        unfold hasMin at *
        rw [List.any_append, Bool.or_eq_true]
        have ih' := winsTo_has acc M i
        unfold hasMin at ih'
        rw [ih']
        simp only [List.any_cons, List.any_nil, Bool.or_false, inB, Bool.and_eq_true, decide_eq_true_eq]
        constructor
        · rintro (⟨h1, h2, h3⟩ | ⟨h1, h2⟩)
          · exact ⟨h1, by omega, h3⟩
          · obtain rfl : i = M := by omega
            exact ⟨by omega, by omega, by rw [Int.toNat_natCast]; exact ha⟩
        · rintro ⟨h1, h2, h3⟩
          by_cases e : i = M
          · exact .inr ⟨by omega, by omega⟩
          · exact .inl ⟨h1, by omega, h3⟩
      · obtain ⟨l, hl1, hl2⟩ := lastAt_iff.1 hl
        rw [winsTo_ext ha hl, setLast_eq hl1, hasMin_iff]
        have hl0 := hok.1 l (by omega)
        constructor
        · rintro ⟨j, hj, h1, h2⟩
          rw [List.length_set] at hj
          rw [List.getElem_set] at h1 h2
          by_cases e : l = j
          · subst e
            rw [if_pos rfl] at h1 h2
            simp only at h1 h2
            by_cases em : i = M
            · subst em; exact ⟨by omega, by omega, by rw [Int.toNat_natCast]; exact ha⟩
            · obtain ⟨a, b, c⟩ := ih.1 ⟨l, by omega, h1, by omega⟩
              exact ⟨a, by omega, c⟩
          · rw [if_neg e] at h1 h2
            obtain ⟨a, b, c⟩ := ih.1 ⟨j, hj, h1, h2⟩
            exact ⟨a, by omega, c⟩
        · rintro ⟨h1, h2, h3⟩
          by_cases em : i = M
          · refine ⟨l, by rw [List.length_set]; omega, ?_⟩
            rw [List.getElem_set, if_pos rfl]
            simp only
            omega
          · obtain ⟨j, hj, h4, h5⟩ := ih.2 ⟨h1, by omega, h3⟩
            refine ⟨j, by rw [List.length_set]; omega, ?_⟩
            rw [List.getElem_set]
            by_cases e : l = j
            · subst e; rw [if_pos rfl]; simp only; omega
            · rw [if_neg e]; exact ⟨h4, h5⟩
/-- minutes counted -/
def cntN (p : Nat → Bool) : Nat → Nat
  | 0 => 0
  | n + 1 => cntN p n + (if p n = true then 1 else 0)
theorem cntN_mono {p q : Nat → Bool} (h : ∀ i, p i = true → q i = true) : ∀ n, cntN p n ≤ cntN q n
  | 0 => Nat.le_refl _
  | n + 1 => by
    have := cntN_mono h n
    rw [cntN, cntN]
    by_cases e : p n = true
    · rw [if_pos e, if_pos (h n e)]; omega
    · rw [if_neg e]; omega
theorem cntN_or {p q : Nat → Bool} (h : ∀ i, p i = true → q i = false) : ∀ n, cntN (fun i => p i || q i) n = cntN p n + cntN q n
  | 0 => rfl
  | n + 1 => by
    have := cntN_or h n
    rw [cntN, cntN, cntN, this]
    have := h n
    cases hp : p n <;> cases hq : q n <;> simp [hp, hq] at this ⊢ <;> omega
theorem cntN_none : ∀ n, cntN (fun _ => false) n = 0
  | 0 => rfl
  | n + 1 => by rw [cntN, cntN_none n]; rfl
theorem cntN_win {a b : Int} (h0 : 0 ≤ a) (h1 : a ≤ b) : ∀ n : Nat, (cntN (fun i => inB (i : Int) a b) n : Int) = if (n : Int) ≤ a then 0 else if (n : Int) ≤ b then n - a else b - a + 1
  | 0 => by rw [if_pos (by omega)]; rfl
  | n + 1 => by
    have ih := cntN_win h0 h1 n
    rw [cntN]
    have e : (inB (n : Int) a b = true) ↔ a ≤ n ∧ (n : Int) ≤ b := by simp [inB]
    by_cases hb : a ≤ n ∧ (n : Int) ≤ b
    · rw [if_pos (e.2 hb)]
      split at ih <;> split <;> first | omega | (split at ih <;> first | omega | (split <;> omega)) | (split <;> omega)
    · rw [if_neg (fun x => hb (e.1 x))]
      split at ih <;> split <;> first | omega | (split at ih <;> first | omega | (split <;> omega)) | (split <;> omega)
def cntW (xs : List WindowD) : Int := (xs.map fun x => x.fin - x.start + 1).sum
theorem cntW_nat : ∀ {xs : List WindowD} {B : Nat}, (∀ x ∈ xs, 0 ≤ x.start ∧ x.start ≤ x.fin ∧ x.fin < B) → (xs.Pairwise fun a b => a.fin + 1 < b.start) → cntW xs = (cntN (fun i => hasMin xs i) B : Nat)
  | [], B, _, _ => by
    have : (fun i : Nat => hasMin [] (i : Int)) = fun _ => false := by funext i; rfl
    rw [this, cntN_none]; rfl
  | x :: xs, B, h, hp => by
    rw [List.pairwise_cons] at hp
    have ih := cntW_nat (B := B) (fun y hy => h y (List.mem_cons_of_mem _ hy)) hp.2
    have hx := h x List.mem_cons_self
    have e : (fun i : Nat => hasMin (x :: xs) (i : Int)) = fun i : Nat => (inB (i : Int) x.start x.fin || hasMin xs (i : Int)) := by funext i; rfl
    rw [e, cntN_or (p := fun i : Nat => inB (i : Int) x.start x.fin) (q := fun i : Nat => hasMin xs (i : Int))]
    · have hw := cntN_win hx.1 hx.2.1 B
      rw [if_neg (by omega), if_neg (by omega)] at hw
      have e2 : cntW (x :: xs) = (x.fin - x.start + 1) + cntW xs := by unfold cntW; rw [List.map_cons, List.sum_cons]
      rw [e2, ih]
      omega
    · intro i hi
      simp [inB] at hi
      cases hh : hasMin xs (i : Int)
      · rfl
      · obtain ⟨j, hj, h1, h2⟩ := hasMin_iff.1 hh
        have := hp.1 _ (List.getElem_mem hj)
        omega
theorem winOk_mem {xs : List WindowD} {B : Int} (h : WinOk xs B) : (∀ x ∈ xs, 0 ≤ x.start ∧ x.start ≤ x.fin ∧ x.fin < B) ∧ xs.Pairwise fun a b => a.fin + 1 < b.start := by
  refine ⟨fun x hx => ?_, List.pairwise_iff_getElem.2 fun i j hi hj hij => pairA h j hj i hij⟩
  obtain ⟨i, hi, rfl⟩ := List.getElem_of_mem hx
  exact h.1 i hi
theorem cntW_le {xs ys : List WindowD} (h1 : WinOk xs 2881) (h2 : WinOk ys 2881) (h : ∀ i : Int, hasMin xs i = true → hasMin ys i = true) : cntW xs ≤ cntW ys := by
  rw [cntW_nat (B := 2881) (winOk_mem h1).1 (winOk_mem h1).2, cntW_nat (B := 2881) (winOk_mem h2).1 (winOk_mem h2).2]
  have := cntN_mono (p := fun i : Nat => hasMin xs (i : Int)) (q := fun i : Nat => hasMin ys (i : Int)) (fun i => h i) 2881
  omega
theorem cntW_range {xs : List WindowD} (h1 : WinOk xs 2881) : 0 ≤ cntW xs ∧ cntW xs ≤ 2881 := by
  rw [cntW_nat (B := 2881) (winOk_mem h1).1 (winOk_mem h1).2]
  have : ∀ p n, cntN p n ≤ n := by
    intro p n
    induction n with
    | zero => exact Nat.le_refl _
    | succ n ih => rw [cntN]; split <;> omega
  have := this (fun i => hasMin xs (i : Int)) 2881
  omega
end Go.Proofs.Ytjfppjhlkeopnaa

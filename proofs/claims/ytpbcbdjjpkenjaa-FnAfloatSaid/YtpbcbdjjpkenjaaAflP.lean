/- Ships afloat on the lowest level all the way: the plain law. No condition. -/
import Derived.Test.YtpbcbdjjpkenjaaStarts2
import Derived.Test.YtpbcbdjjpkenjaaCntL
namespace Go.Proofs.Ytpbcbdjjpkenjaa
open Go.RowKit
set_option linter.unusedVariables false
theorem runA {xs : List WindowD} {B : Int} (h : WinOk xs B) (m : Int) : ∀ n : Nat, (∀ j : Nat, j ≤ n → hasMin xs (m + j) = true) → ∃ i, ∃ h : i < xs.length, xs[i].start ≤ m ∧ m + n ≤ xs[i].fin
  | 0, hh => by
    obtain ⟨i, hi, h1, h2⟩ := hasMin_iff.1 (hh 0 (Nat.le_refl _))
    exact ⟨i, hi, by omega, by omega⟩
  | n + 1, hh => by
    obtain ⟨i, hi, h1, h2⟩ := runA h m n (fun j hj => hh j (by omega))
    obtain ⟨k, hk, h3, h4⟩ := hasMin_iff.1 (hh (n + 1) (Nat.le_refl _))
    refine ⟨i, hi, h1, ?_⟩
    rcases Nat.lt_trichotomy i k with e | e | e
    · have := pairA h k hk i e; omega
    · subst e; omega
    · have := pairA h i hi k e; omega
theorem hasMin_shrink {n : Nat} {xs : List WindowD} {B m : Int} (h : WinOk xs B) : hasMin (shrinkL n xs) m = true ↔ ∀ j : Nat, j ≤ n → hasMin xs (m + j) = true := by
  constructor
  · intro hm j hj
    unfold hasMin shrinkL at hm
    rw [List.any_map, List.any_filter, List.any_eq_true] at hm
    obtain ⟨x, hx, hx2⟩ := hm
    simp [inB] at hx2
    unfold hasMin
    rw [List.any_eq_true]
    exact ⟨x, hx, by simp [inB]; omega⟩
  · intro hh
    obtain ⟨i, hi, h1, h2⟩ := runA h m n hh
    unfold hasMin shrinkL
    rw [List.any_map, List.any_filter, List.any_eq_true]
    exact ⟨xs[i], List.getElem_mem hi, by simp [inB]; omega⟩
/-- what a start is -/
theorem start_iff {hi : Bool} {f : ForeD} {c : ChartD} {k : Int} {s : ShipD} {m : Int} (hf : foreOk f = true) (ho : onSeg c k s = true) : hasMin (startsOf hi f c k s) m = true ↔ 0 ≤ m ∧ m + minutesOn c k s ≤ 2880 ∧ ∀ i, m ≤ i → i ≤ m + minutesOn c k s → levelFor c k s ≤ levF hi f i := by
  unfold startsOf
  rw [if_pos (by rw [hf, ho]; rfl)]
  have hr := minutes_range c k s
  obtain ⟨n, hn⟩ : ∃ n : Nat, minutesOn c k s = n := ⟨(minutesOn c k s).toNat, by omega⟩
  rw [hn, hasMin_shrink (wins_ok _)]
  constructor
  · intro h
    have a := (winsTo_has _ _ _).1 (h 0 (by omega))
    have b := (winsTo_has _ _ _).1 (h n (Nat.le_refl _))
    refine ⟨by omega, by omega, fun i h1 h2 => ?_⟩
    have d := (winsTo_has _ _ _).1 (h (i - m).toNat (by omega))
    have e : m + ((i - m).toNat : Int) = i := by omega
    rw [e] at d
    have d2 := d.2.2
    unfold accL at d2
    rw [show ((i.toNat : Nat) : Int) = i by omega] at d2
    simpa using d2
  · rintro ⟨h1, h2, h3⟩ j hj
    refine (winsTo_has _ _ _).2 ⟨by omega, by omega, ?_⟩
    unfold accL
    rw [show (((m + (j : Int)).toNat : Nat) : Int) = m + j by omega]
    simpa using h3 (m + j) (by omega) (by omega)
theorem leastL_iff {f : ForeD} {m L : Int} : ∀ j : Nat, L ≤ leastL f m j ↔ L ≤ lowF f m ∧ ∀ i : Nat, i < j → L ≤ lowF f (m + i)
  | 0 => ⟨fun h => ⟨h, fun i hi => by omega⟩, fun h => h.1⟩
  | j + 1 => by
    rw [leastL]
    have ih := leastL_iff (f := f) (m := m) (L := L) j
    constructor
    · intro h
      have h1 := ih.1 (by omega)
      refine ⟨h1.1, fun i hi => ?_⟩
      by_cases e : i = j
      · subst e; omega
      · exact h1.2 i (by omega)
    · rintro ⟨h1, h2⟩
      have := ih.2 ⟨h1, fun i hi => h2 i (by omega)⟩
      have := h2 j (by omega)
      omega
theorem lastD_ge {P : Int → Bool} : ∀ j : Nat, ∀ d : Int, 100 ≤ d → d < 100 + j → P d = true → d ≤ lastD P j
  | 0, d, h0, h1, _ => by omega
  | j + 1, d, h0, h1, hp => by
    rw [lastD_succ]
    split
    · omega
    · rename_i hn
      by_cases e : d = 100 + (j : Int)
      · subst e; exact absurd hp hn
      · exact lastD_ge j d h0 (by omega) hp
theorem lastD_is (P : Int → Bool) : ∀ j : Nat, lastD P j = 0 ∨ (100 ≤ lastD P j ∧ lastD P j < 100 + j ∧ P (lastD P j) = true)
  | 0 => .inl rfl
  | j + 1 => by
    rw [lastD_succ]
    split
    · rename_i h; exact .inr ⟨by omega, by omega, h⟩
    · rcases lastD_is P j with h | ⟨h1, h2, h3⟩
      · exact .inl h
      · exact .inr ⟨h1, by omega, h3⟩
theorem onSeg_draught {c : ChartD} {k d : Int} {s : ShipD} (h : onSeg c k s = true) (d0 : 100 ≤ d) (d1 : d ≤ 2000) : onSeg c k (withDraught s d) = true := by
  unfold onSeg at h ⊢
  simp only [Bool.and_eq_true] at h ⊢
  refine ⟨⟨h.1.1, ?_⟩, h.2⟩
  have := h.1.2
  unfold shipOk withDraught at *
  simp only [Bool.and_eq_true] at this ⊢
  refine ⟨⟨⟨⟨this.1.1.1.1, this.1.1.1.2⟩, by simp [inB]; omega⟩, this.1.2⟩, this.2⟩
theorem floats_anti {f : ForeD} {c : ChartD} {k l d e : Int} {s : ShipD} (h : onSeg c k s = true) (d0 : 100 ≤ d) (de : d ≤ e) (e1 : e ≤ 2000) (hp : floats f c k s l e = true) : floats f c k s l d = true := by
  unfold floats levelFor at hp ⊢
  rw [onSeg_draught h (by omega) e1, if_pos rfl] at hp
  rw [onSeg_draught h d0 (by omega), if_pos rfl]
  unfold need squat withDraught at *
  simp only [decide_eq_true_eq] at hp ⊢
  cases hs : s.slow <;> simp only [hs, Bool.false_eq_true, if_true, if_false] at hp ⊢ <;> omega
theorem withDraught_self (s : ShipD) : withDraught s s.draught = s := by cases s; rfl
theorem draught_iff {f : ForeD} {c : ChartD} {k m : Int} {s : ShipD} (hf : foreOk f = true) (ho : onSeg c k s = true) (m0 : 0 ≤ m) (m1 : m + minutesOn c k s ≤ 2880) : s.draught ≤ draughtFor f c k s m ↔ hasMin (startsOf false f c k s) m = true := by
  have hr := minutes_range c k s
  have hs := shipOk_of (onSeg_iff ho).2.1
  have hcan : canStart f c k s m = true := by unfold canStart; rw [hf, ho]; simp [inB]; omega
  unfold draughtFor
  rw [if_pos hcan, start_iff hf ho]
  obtain ⟨L, hL⟩ : ∃ L, leastL f m ((minutesOn c k s).toNat + 1) = L := ⟨_, rfl⟩
  have hst : (0 ≤ m ∧ m + minutesOn c k s ≤ 2880 ∧ ∀ i, m ≤ i → i ≤ m + minutesOn c k s → levelFor c k s ≤ levF false f i) ↔ floats f c k s L s.draught = true := by
    unfold floats
    rw [withDraught_self, decide_eq_true_eq, ← hL, leastL_iff]
    constructor
    · rintro ⟨-, -, h⟩
      refine ⟨h m (by omega) (by omega), fun i hi => h (m + i) (by omega) (by omega)⟩
    · rintro ⟨h1, h2⟩
      refine ⟨m0, m1, fun i h3 h4 => ?_⟩
      have := h2 (i - m).toNat (by omega)
      rw [show m + ((i - m).toNat : Int) = i by omega] at this
      exact this
  rw [hL, hst]
  constructor
  · intro h
    rcases lastD_is (floats f c k s L) 1901 with e | ⟨e1, e2, e3⟩
    · omega
    · exact floats_anti ho (by omega) h (by omega) e3
  · intro h
    exact lastD_ge 1901 _ (by omega) (by omega) h
theorem startsOkA (hi : Bool) (f : ForeD) (c : ChartD) (k : Int) (s : ShipD) : WinOk (startsOf hi f c k s) 2881 := by
  unfold startsOf
  split
  · have hm := minutes_range c k s
    have hw := wins_ok (accL hi f (levelFor c k s))
    generalize winsTo (accL hi f (levelFor c k s)) 2881 = xs at hw
    generalize minutesOn c k s = n at hm
    obtain ⟨g1, g2⟩ := winOk_mem hw
    have k1 : ∀ y ∈ shrinkL n xs, 0 ≤ y.start ∧ y.start ≤ y.fin ∧ y.fin < 2881 := by
      intro y hy
      unfold shrinkL at hy
      obtain ⟨x, hx, rfl⟩ := List.mem_map.1 hy
      rw [List.mem_filter] at hx
      have := g1 x hx.1
      have := hx.2
      simp at this
      simp only
      omega
    have k2 : (shrinkL n xs).Pairwise fun a b => a.fin + 1 < b.start := by
      unfold shrinkL
      rw [List.pairwise_map]
      refine (g2.filter _).imp ?_
      intro a b hab
      show a.fin - n + 1 < b.start
      omega
    exact ⟨fun i hi => k1 _ (List.getElem_mem hi), fun i hi => (List.pairwise_iff_getElem.1 k2) i (i + 1) (by omega) hi (by omega)⟩
  · exact ⟨fun i h => by simp at h, fun i h => by simp at h⟩
theorem sure_open {f : ForeD} {c : ChartD} {k : Int} {s : ShipD} (hf : foreOk f = true) (ho : onSeg c k s = true) (m : Int) (h : hasMin (startsOf false f c k s) m = true) : hasMin (startsOf true f c k s) m = true := by
  rw [start_iff hf ho] at h ⊢
  refine ⟨h.1, h.2.1, fun i h1 h2 => ?_⟩
  have hss : ∀ j, ∀ hj : j < f.surges.length, f.surges[j].low ≤ f.surges[j].high := fun j hj => (surgeOk_of ((foreOk_of hf).2.2.2 j hj)).2.2.2.1
  have hl := (foreOk_of hf).2.1
  have hix := surgeIdx_lt f.surges i f.surges.length (by omega)
  have e : surgeAt f i = f.surges[surgeIdx f.surges i f.surges.length] := by unfold surgeAt; rw [getD_at hix]
  have hle := hss _ hix
  have hlow : lowF f i ≤ highF f i := by unfold lowF highF; rw [e]; omega
  have h3 := h.2.2 i h1 h2
  have e1 : levF false f i = lowF f i := rfl
  have e2 : levF true f i = highF f i := rfl
  rw [e1] at h3
  rw [e2]
  omega
/-- afloat on the lowest level in the first j minutes -/
def allAfl (f : ForeD) (c : ChartD) (k : Int) (s : ShipD) (m : Int) : Nat → Bool
  | 0 => true
  | j + 1 => allAfl f c k s m j && isAfloat c k s (lowAt f (m + j))
theorem allAfl_iff {f : ForeD} {c : ChartD} {k : Int} {s : ShipD} {m : Int} : ∀ j : Nat, allAfl f c k s m j = true ↔ ∀ i : Nat, i < j → isAfloat c k s (lowAt f (m + i)) = true
  | 0 => ⟨fun _ i hi => by omega, fun _ => rfl⟩
  | j + 1 => by
    rw [allAfl, Bool.and_eq_true, allAfl_iff j]
    constructor
    · rintro ⟨h1, h2⟩ i hi
      by_cases e : i = j
      · subst e; exact h2
      · exact h1 i (by omega)
    · intro h; exact ⟨fun i hi => h i (by omega), h j (by omega)⟩
theorem sure_all {f : ForeD} {c : ChartD} {k m : Int} {s : ShipD} (hf : foreOk f = true) (ho : onSeg c k s = true) (m0 : 0 ≤ m) (m1 : m + minutesOn c k s ≤ 2880) : hasMin (startsOf false f c k s) m = allAfl f c k s m ((minutesOn c k s).toNat + 1) := by
  have hr := minutes_range c k s
  rw [Bool.eq_iff_iff, start_iff hf ho, allAfl_iff]
  have ha : ∀ i : Int, 0 ≤ i → i ≤ 2880 → (isAfloat c k s (lowAt f i) = true ↔ levelFor c k s ≤ levF false f i) := by
    intro i h0 h1
    unfold isAfloat lowAt levF
    rw [ho, hf, show inB i 0 2880 = true by simp [inB]; omega]
    simp
  constructor
  · rintro ⟨-, -, h⟩ i hi
    exact (ha (m + i) (by omega) (by omega)).2 (h _ (by omega) (by omega))
  · intro h
    refine ⟨m0, m1, fun i h1 h2 => (ha i (by omega) (by omega)).1 ?_⟩
    have := h (i - m).toNat (by omega)
    rwa [show m + ((i - m).toNat : Int) = i by omega] at this
end Go.Proofs.Ytpbcbdjjpkenjaa

/- Berths allotted, and what stays leave free: the plain law. No condition. -/
import Derived.Test.YtjfppjhlkeopnaaFreeL
import Derived.Test.YtjfppjhlkeopnaaAllot
namespace Go.Proofs.Ytjfppjhlkeopnaa
open Go.RowKit
set_option linter.unusedVariables false
/-- stays as they were asked for, but for the berth -/
def AsAsked (asks d : List StayD) : Prop := ∀ i (h : i < d.length), d[i].ship = (asks.getD i default).ship ∧ d[i].start = (asks.getD i default).start ∧ d[i].fin = (asks.getD i default).fin
theorem AsAsked.snoc {asks d : List StayD} (h : AsAsked asks d) (b : Int) : AsAsked asks (d ++ [askAt asks d b]) := by
  intro i hi
  rw [List.length_append, List.length_singleton] at hi
  by_cases e : i < d.length
  · rw [List.getElem_append_left e]; exact h i e
  · obtain rfl : i = d.length := by omega
    rw [List.getElem_append_right (Nat.le_refl _)]
    simp [askAt]
theorem allotL_sound {bs : List BerthD} {fl : List ShipD} {asks : List StayD} : ∀ {n : Nat} {d ys : List StayD}, AsAsked asks d → allotL bs fl asks n d = some ys → AsAsked asks ys ∧ staysOk bs fl ys = true
  | 0, d, ys, ha, h => by
    rw [allotL] at h; split at h
    · rename_i hs
      have := Option.some.inj h; subst this; exact ⟨ha, hs⟩
    · cases h
  | n + 1, d, ys, ha, h => by
    rw [allotL] at h
    obtain ⟨k, hk⟩ := firstSome_mem h
    split at hk
    · exact allotL_sound (ha.snoc _) hk
    · cases hk
theorem allot_sound {bs : List BerthD} {fl : List ShipD} {asks ys : List StayD} (h : allotBerths bs fl asks = some ys) : AsAsked asks ys ∧ staysOk bs fl ys = true ∧ ys.length = asks.length := by
  unfold allotBerths at h
  split at h
  · have a := allotL_sound (fun i hi => by simp at hi) h
    have b := allotL_len h
    exact ⟨a.1, a.2, by simpa using b⟩
  · cases h
theorem stays_row {bs : List BerthD} {fl : List ShipD} {ys : List StayD} (h : staysOk bs fl ys = true) : berthsOk bs = true ∧ ys.length ≤ 12 ∧ ∀ i (hi : i < ys.length), (0 ≤ ys[i].berth ∧ ys[i].berth < bs.length) ∧ (0 ≤ ys[i].start ∧ ys[i].start < ys[i].fin ∧ ys[i].fin ≤ 2880) ∧ ∀ j (hj : j < i), ys[j].berth = ys[i].berth → ¬ (max ys[j].start ys[i].start < min ys[j].fin ys[i].fin) := by
  unfold staysOk at h
  simp only [Bool.and_eq_true, decide_eq_true_eq, allUpTo_iff] at h
  refine ⟨h.1.1.1, h.1.2, fun i hi => ?_⟩
  have hr := h.2 i hi
  unfold stayRow at hr
  rw [getD_at hi, Bool.and_eq_true, allUpTo_iff] at hr
  obtain ⟨h1, h2⟩ := hr
  unfold stayFit at h1
  simp only [Bool.and_eq_true] at h1
  have hb := h1.1.1.2
  have hl := lasts_of h1.1.2
  simp [inB] at hb
  refine ⟨by omega, hl, fun j hj e hlt => ?_⟩
  have h3 := h2 j hj
  unfold noClash stayClash at h3
  rw [getD_at (show j < ys.length by omega)] at h3
  simp [e, hlt] at h3 <;> omega
theorem taken_has {ys : List StayD} {b m : Int} : ∀ k, k ≤ ys.length → (hasMin (takenTo ys b k) m = true ↔ ∃ j, ∃ h : j < ys.length, j < k ∧ ys[j].berth = b ∧ ys[j].start ≤ m ∧ m < ys[j].fin)
  | 0, _ => by
    constructor
    · intro h; simp [takenTo, hasMin] at h
    · rintro ⟨j, _, h, -⟩; omega
  | k + 1, hk => by
    have ih := taken_has (ys := ys) (b := b) (m := m) k (by omega)
    have e : hasMin (takenTo ys b (k + 1)) m = true ↔ hasMin (takenTo ys b k) m = true ∨ (ys[k].berth = b ∧ ys[k].start ≤ m ∧ m < ys[k].fin) := by
      rw [takenTo, getD_at (show k < ys.length by omega)]
      unfold hasMin
      rw [List.any_append, Bool.or_eq_true]
      refine or_congr Iff.rfl ?_
      split
      · rename_i h; simp [inB]; constructor
        · intro h2; exact ⟨h.1, h2.1, by omega⟩
        · intro h2; omega
      · rename_i h
        simp
        intro h2 h3
        have : ¬ ys[k].start < ys[k].fin := fun h4 => h ⟨h2, h4⟩
        omega
    rw [e, ih]
    constructor
    · rintro (⟨j, h1, h2, h3⟩ | h)
      · exact ⟨j, h1, by omega, h3⟩
      · exact ⟨k, by omega, by omega, h⟩
    · rintro ⟨j, h1, h2, h3⟩
      by_cases e2 : j = k
      · subst e2; exact .inr h3
      · exact .inl ⟨j, h1, by omega, h3⟩
theorem taken_count {bs : List BerthD} {fl : List ShipD} {ys : List StayD} (h : staysOk bs fl ys = true) (b : Int) : ∀ k, k ≤ ys.length → (cntN (fun i => hasMin (takenTo ys b k) (i : Int)) 2881 : Int) = loadTo ys b k
  | 0, _ => by
    rw [show (fun i : Nat => hasMin (takenTo ys b 0) (i : Int)) = fun _ => false from rfl, cntN_none]; rfl
  | k + 1, hk => by
    have ih := taken_count h b k (by omega)
    obtain ⟨-, -, hr⟩ := stays_row h
    obtain ⟨-, hl, hd⟩ := hr k (by omega)
    rw [loadTo, ← ih, getD_at (show k < ys.length by omega)]
    by_cases hb : ys[k].berth = b
    · have e1 : (fun i : Nat => hasMin (takenTo ys b (k + 1)) (i : Int)) = fun i : Nat => (hasMin (takenTo ys b k) (i : Int) || inB (i : Int) ys[k].start (ys[k].fin - 1)) := by
        funext i
        rw [takenTo, getD_at (show k < ys.length by omega), if_pos ⟨hb, hl.2.1⟩]
        unfold hasMin
        rw [List.any_append]
        simp
      rw [e1, cntN_or (p := fun i : Nat => hasMin (takenTo ys b k) (i : Int)) (q := fun i : Nat => inB (i : Int) ys[k].start (ys[k].fin - 1))]
      · have hw := cntN_win (a := ys[k].start) (b := ys[k].fin - 1) hl.1 (by omega) 2881
        rw [if_neg (by omega), if_neg (by omega)] at hw
        have e2 : loadAt ys[k] b = ys[k].fin - ys[k].start := by
          unfold loadAt
          rw [if_pos ⟨hb, by unfold lasts; simp; omega⟩]
        rw [e2]
        omega
      · intro i hi
        obtain ⟨j, hj, hjk, h1, h2, h3⟩ := (taken_has k (by omega)).1 hi
        have := hd j hjk (h1.trans hb.symm)
        cases e3 : inB (i : Int) ys[k].start (ys[k].fin - 1) with
        | false => rfl
        | true => simp [inB] at e3; omega
    · have e1 : takenTo ys b (k + 1) = takenTo ys b k := by
        rw [takenTo, getD_at (show k < ys.length by omega), if_neg (fun h => hb h.1), List.append_nil]
      have e2 : loadAt ys[k] b = 0 := by unfold loadAt; rw [if_neg (fun h => hb h.1)]
      rw [e1, e2]; omega
/-- what is free and what is taken at one berth -/
theorem free_load {bs : List BerthD} {fl : List ShipD} {ys : List StayD} (h : staysOk bs fl ys = true) {b : Nat} (hb : b < bs.length) : cntW (freeL bs ys b) + berthLoad ys b = 2881 ∧ WinOk (freeL bs ys b) 2881 := by
  have hbo := (stays_row h).1
  have e : freeL bs ys b = otherL (gatherL (takenTo ys b ys.length)) := by
    unfold freeL
    rw [hbo, show inB (b : Int) 0 ((bs.length : Int) - 1) = true by simp [inB]; omega]; rfl
  have h1 := free_count (takenTo ys b ys.length)
  have h2 := taken_count h b ys.length (Nat.le_refl _)
  refine ⟨?_, ?_⟩
  · rw [e]; unfold berthLoad; omega
  · rw [e]; exact (other_ok (winsTo_ok _ 2881)).1
/-- what is free if there are no stays -/
theorem free_none {bs : List BerthD} (h : berthsOk bs = true) {b : Nat} (hb : b < bs.length) : cntW (freeL bs [] b) + berthLoad [] b = 2881 ∧ WinOk (freeL bs [] b) 2881 := by
  have e : freeL bs [] b = otherL (gatherL (takenTo [] b 0)) := by
    unfold freeL
    rw [h, show inB (b : Int) 0 ((bs.length : Int) - 1) = true by simp [inB]; omega]; rfl
  have h1 := free_count (takenTo [] b 0)
  rw [show (fun i : Nat => hasMin (takenTo [] b 0) (i : Int)) = fun _ => false from rfl, cntN_none] at h1
  refine ⟨?_, ?_⟩
  · rw [e, show berthLoad [] (b : Int) = 0 from rfl]; omega
  · rw [e]; exact (other_ok (winsTo_ok _ 2881)).1
/-! ### sums over berths and stays -/
def sumTo (ys : List StayD) : Nat → Int
  | 0 => 0
  | k + 1 => sumTo ys k + (ys.getD k default).fin - (ys.getD k default).start
def freeTo (bs : List BerthD) (ys : List StayD) : Nat → Int
  | 0 => 0
  | k + 1 => freeTo bs ys k + cntW (freeL bs ys (k : Nat))
def loadsTo (ys : List StayD) : Nat → Int
  | 0 => 0
  | k + 1 => loadsTo ys k + berthLoad ys (k : Nat)
/-- the loads of the first n berths by the first k stays -/
def gridTo (ys : List StayD) (k : Nat) : Nat → Int
  | 0 => 0
  | n + 1 => gridTo ys k n + loadTo ys (n : Nat) k
theorem loads_grid (ys : List StayD) : ∀ n, loadsTo ys n = gridTo ys ys.length n
  | 0 => rfl
  | n + 1 => by rw [loadsTo, gridTo, loads_grid ys n]; rfl
theorem grid_zero (ys : List StayD) : ∀ n, gridTo ys 0 n = 0
  | 0 => rfl
  | n + 1 => by rw [gridTo, grid_zero ys n]; rfl
theorem grid_step (ys : List StayD) (k : Nat) : ∀ n, gridTo ys (k + 1) n = gridTo ys k n + if 0 ≤ (ys.getD k default).berth ∧ (ys.getD k default).berth < n then loadAt (ys.getD k default) (ys.getD k default).berth else 0
  | 0 => by rw [gridTo, gridTo, if_neg (by omega)]; rfl
  | n + 1 => by
    rw [gridTo, gridTo, grid_step ys k n, loadTo]
    by_cases e : (ys.getD k default).berth = n
    · rw [if_neg (by omega), if_pos (by omega), e]; omega
    · have : loadAt (ys.getD k default) (n : Nat) = 0 := by unfold loadAt; rw [if_neg (fun h => e h.1)]
      rw [this]
      by_cases e2 : 0 ≤ (ys.getD k default).berth ∧ (ys.getD k default).berth < n
      · rw [if_pos e2, if_pos (by omega)]; omega
      · rw [if_neg e2, if_neg (by omega)]; omega
theorem grid_sum {bs : List BerthD} {fl : List ShipD} {ys : List StayD} (h : staysOk bs fl ys = true) : ∀ k, k ≤ ys.length → gridTo ys k bs.length = sumTo ys k
  | 0, _ => by rw [grid_zero]; rfl
  | k + 1, hk => by
    obtain ⟨-, -, hr⟩ := stays_row h
    obtain ⟨hb, hl, -⟩ := hr k (by omega)
    rw [grid_step, grid_sum h k (by omega), sumTo, getD_at (show k < ys.length by omega), if_pos hb]
    have e2 : loadAt ys[k] ys[k].berth = ys[k].fin - ys[k].start := by
      unfold loadAt
      rw [if_pos ⟨rfl, by unfold lasts; simp; omega⟩]
    rw [e2]; omega
theorem loads_sum {bs : List BerthD} {fl : List ShipD} {ys : List StayD} (h : staysOk bs fl ys = true) : loadsTo ys bs.length = sumTo ys ys.length := by
  rw [loads_grid]; exact grid_sum h _ (Nat.le_refl _)
theorem sum_range {bs : List BerthD} {fl : List ShipD} {ys : List StayD} (h : staysOk bs fl ys = true) : ∀ k, k ≤ ys.length → 0 ≤ sumTo ys k ∧ sumTo ys k ≤ 2880 * k
  | 0, _ => by simp [sumTo]
  | k + 1, hk => by
    have := sum_range h k (by omega)
    obtain ⟨-, -, hr⟩ := stays_row h
    obtain ⟨-, hl, -⟩ := hr k (by omega)
    rw [sumTo, getD_at (show k < ys.length by omega)]; omega
/-- stays that are valid, or none -/
def StaysAre (bs : List BerthD) (fl : List ShipD) (ys : List StayD) : Prop := staysOk bs fl ys = true ∨ (ys = [] ∧ berthsOk bs = true)
theorem StaysAre.load {bs : List BerthD} {fl : List ShipD} {ys : List StayD} (h : StaysAre bs fl ys) {b : Nat} (hb : b < bs.length) : cntW (freeL bs ys b) + berthLoad ys b = 2881 ∧ WinOk (freeL bs ys b) 2881 := by
  rcases h with h | ⟨rfl, h⟩
  · exact free_load h hb
  · exact free_none h hb
theorem StaysAre.free {bs : List BerthD} {fl : List ShipD} {ys : List StayD} (h : StaysAre bs fl ys) : ∀ n, n ≤ bs.length → freeTo bs ys n + loadsTo ys n = 2881 * n
  | 0, _ => rfl
  | n + 1, hn => by
    have := h.free n (by omega)
    have := (h.load (b := n) (by omega)).1
    rw [freeTo, loadsTo]; omega
theorem StaysAre.sum {bs : List BerthD} {fl : List ShipD} {ys : List StayD} (h : StaysAre bs fl ys) : loadsTo ys bs.length = sumTo ys ys.length := by
  rcases h with h | ⟨rfl, h⟩
  · exact loads_sum h
  · have : ∀ n, loadsTo [] n = 0 := by
      intro n
      induction n with
      | zero => rfl
      | succ n ih => rw [loadsTo, ih]; rfl
    rw [this]; rfl
theorem loads_range {ys : List StayD} (hl : ys.length ≤ 12) : ∀ n, 0 ≤ loadsTo ys n ∧ loadsTo ys n ≤ 34560 * n
  | 0 => by simp [loadsTo]
  | n + 1 => by
    have := loads_range hl n
    have := loadTo_range ys (n : Nat) ys.length
    rw [loadsTo]; unfold berthLoad; omega
/-- the berth that is found -/
theorem find_fits {bs : List BerthD} {fl : List ShipD} {k : Int} (h : findBerth bs fl [] 0 10 20 = k) (hk : 0 ≤ k) : ∃ b : Nat, k = b ∧ b < bs.length ∧ fitsBerth (bs.getD b default) (fl.getD 0 default) = true := by
  unfold findBerth at h
  split at h
  · obtain ⟨b, rfl⟩ : ∃ b : Nat, k = b := ⟨k.toNat, by omega⟩
    obtain ⟨h1, h2, -⟩ := firstUpTo_spec h
    refine ⟨b, rfl, h1, ?_⟩
    simp only [List.nil_append] at h2
    unfold staysOk at h2
    simp only [Bool.and_eq_true, allUpTo_iff] at h2
    have h3 := h2.2 0 (by simp)
    unfold stayRow stayFit at h3
    simp [List.getD] at h3
    simp [List.getD]
    exact h3.1.2
  · omega
end Go.Proofs.Ytjfppjhlkeopnaa

/- What an appended locking does, in plain words: the law FnLocks. No condition. -/
import Derived.Test.YtjmffhpfmfmnlaaLockDraw
import Derived.Test.YtjmffhpfmfmnlaaPackedL
import Derived.Test.YtjmffhpfmfmnlaaLockOrd
namespace Go.Proofs.Ytjmffhpfmfmnlaa
open Go.RowKit
set_option linter.unusedVariables false
set_option linter.unusedSectionVars false
theorem getD_app {α : Type} [Inhabited α] {xs ys : List α} {i : Nat} (h : i < xs.length) : (xs ++ ys).getD i default = xs.getD i default := by
  rw [List.getD_eq_getElem?_getD, List.getD_eq_getElem?_getD, List.getElem?_append_left h]
theorem getD_end {α : Type} [Inhabited α] {xs : List α} {y : α} {i : Nat} (h : i = xs.length) : (xs ++ [y]).getD i default = y := by
  subst h
  rw [List.getD_eq_getElem?_getD, List.getElem?_append_right (Nat.le_refl _)]; simp
theorem planRow_app {x0 x2 : Int} {m : Nat} {fl : List ShipD} {ds : List LockD} {l : LockD} {i : Nat} (h : i < ds.length) : planRow x0 x2 m fl (ds ++ [l]) i = planRow x0 x2 m fl ds i := by
  unfold planRow; rw [getD_app h, getD_app (show i - 1 < ds.length by omega)]
theorem plan_snoc {x0 x2 : Int} {m : Nat} {fl : List ShipD} {ds : List LockD} {l : LockD} (h : allUpTo (planRow x0 x2 m fl ds) ds.length = true) (h0 : 0 ≤ l.start) (h1 : l.start ≤ 2880)
    (h2 : ds.length = 0 ∨ ((ds.getD (ds.length - 1) default).start + x2 ≤ l.start ∧ l.up ≠ (ds.getD (ds.length - 1) default).up)) (h3 : shipsFitB x0 m fl l.ships = true) : allUpTo (planRow x0 x2 m fl (ds ++ [l])) (ds ++ [l]).length = true := by
  rw [allUpTo_iff] at h ⊢
  intro i hi
  rcases Nat.lt_or_ge i ds.length with e | e
  · rw [planRow_app e]; exact h i e
  · obtain rfl : i = ds.length := by simp at hi; omega
    unfold planRow
    rw [getD_end rfl, h3]
    rcases h2 with h2 | ⟨h2, h4⟩
    · simp only [inB, h2, decide_true, Bool.true_or, Bool.and_true, Bool.and_eq_true, decide_eq_true_eq]; omega
    · by_cases e0 : ds.length = 0
      · simp only [inB, e0, decide_true, Bool.true_or, Bool.and_true, Bool.and_eq_true, decide_eq_true_eq]; omega
      · rw [getD_app (show ds.length - 1 < ds.length by omega)]
        have h5 : upSame l.up (ds.getD (ds.length - 1) default).up = false := by unfold upSame; simpa using h4
        rw [h5]
        simp only [inB, Bool.not_false, Bool.and_true, Bool.and_eq_true, Bool.or_eq_true, Bool.not_eq_true', decide_eq_true_eq, decide_eq_false_iff_not]
        exact ⟨⟨h0, h1⟩, .inr (by omega)⟩
theorem plan_rows {x0 x2 : Int} {m : Nat} {fl : List ShipD} {ds : List LockD} (h : lockPlanOk x0 m x2 fl ds = true) : chOk x0 m x2 = true ∧ fleetOk fl = true ∧ ds.length ≤ 12 ∧ allUpTo (planRow x0 x2 m fl ds) ds.length = true := by
  unfold lockPlanOk at h
  rw [Int.toNat_natCast] at h
  simp only [Bool.and_eq_true, decide_eq_true_eq] at h
  exact ⟨h.1.1.1, h.1.1.2, by omega, h.2⟩
theorem plan_mk {x0 x2 : Int} {m : Nat} {fl : List ShipD} {ds : List LockD} (h1 : chOk x0 m x2 = true) (h2 : fleetOk fl = true) (h3 : ds.length ≤ 12) (h4 : allUpTo (planRow x0 x2 m fl ds) ds.length = true) : lockPlanOk x0 m x2 fl ds = true := by
  unfold lockPlanOk; rw [h1, h2, Int.toNat_natCast, h4]
  simp only [Bool.and_true, Bool.true_and, decide_eq_true_eq]; omega
/-- the turn, where the plan is valid -/
theorem turn_is {x0 x2 : Int} {m : Nat} {fl : List ShipD} {ds : List LockD} {up : Bool} {ready : Int} (h : lockPlanOk x0 m x2 fl ds = true) (hr0 : 0 ≤ ready) (hr1 : ready ≤ 2880) :
    (ds.length = 0 ∧ nextTurn x0 m x2 ds up ready = ready) ∨ (0 < ds.length ∧ 0 ≤ (ds.getD (ds.length - 1) default).start ∧ nextTurn x0 m x2 ds up ready = max ready ((ds.getD (ds.length - 1) default).start + (if (ds.getD (ds.length - 1) default).up = up then 2 * x2 else x2))) := by
  obtain ⟨h1, -, -, h4⟩ := plan_rows h
  have hin : inB ready 0 2880 = true := by simp only [inB, Bool.and_eq_true, decide_eq_true_eq]; omega
  unfold nextTurn
  rw [if_pos ⟨h1, hin⟩]
  by_cases e : ds.length = 0
  · exact .inl ⟨e, by rw [if_pos e]⟩
  · right
    obtain ⟨s0, s1⟩ := planRow_start h4 (show ds.length - 1 < ds.length by omega)
    refine ⟨by omega, s0, ?_⟩
    rw [if_neg e]
    unfold nextLast
    rw [if_pos (by simp only [inB, Bool.and_eq_true, decide_eq_true_eq]; omega)]
theorem fit_nil (x0 : Int) (m : Nat) (fl : List ShipD) : shipsFitB x0 m fl [] = true := rfl
theorem fit_one {x0 : Int} {m : Nat} {fl : List ShipD} {s : Nat} (hm : 1 ≤ m) (hs : s < fl.length) (h0 : 0 ≤ fl[s].length) (h1 : fl[s].length ≤ x0) : shipsFitB x0 m fl [(s : Int)] = true := by
  have e : lensOf fl [(s : Int)] = [fl[s].length] := by simp only [lensOf, List.map_cons, List.map_nil, Int.toNat_natCast, getD_at hs]
  unfold shipsFitB
  rw [e, canPack_one hm h0 h1]
  have : shipsOkB fl.length [(s : Int)] = true := by
    unfold shipsOkB
    rw [allUpTo_iff]
    intro i hi
    obtain rfl : i = 0 := by simpa using hi
    show (inB (s : Int) 0 ((fl.length : Int) - 1) && notBefore [(s : Int)] (s : Int) 0) = true
    have : notBefore [(s : Int)] (s : Int) 0 = true := rfl
    rw [this]
    simp only [inB, Bool.and_true, Bool.and_eq_true, decide_eq_true_eq]; omega
  rw [this]; rfl
section
variable {x0 x2 : Int} {m : Nat} {fl : List ShipD} {ds : List LockD} {up : Bool} {ready : Int} {s : Nat} (h : lockPlanOk x0 m x2 fl ds = true) (hm : 1 ≤ m) (hx2 : 0 ≤ x2) (hr0 : 0 ≤ ready) (hr1 : ready ≤ 2880)
include h hm hx2 hr0 hr1
theorem lk_turn : ready ≤ nextTurn x0 m x2 ds up ready := by
  rcases turn_is (up := up) h hr0 hr1 with ⟨_, e⟩ | ⟨_, _, e⟩ <;> rw [e] <;> omega
/-- an append that fails tells why -/
theorem lk_fails (hs : s < fl.length) (hs0 : 0 ≤ fl[s].length) (hn : appendLocking x0 m x2 fl ds up ready [(s : Int)] = none) : x0 < fl[s].length ∨ 12 < ds.length + 2 ∨ 2880 < nextTurn x0 m x2 ds up ready := by
  rcases Int.lt_or_le x0 fl[s].length with a | a
  · exact .inl a
  rcases Nat.lt_or_ge 12 (ds.length + 2) with b | b
  · exact .inr (.inl b)
  rcases Int.lt_or_le 2880 (nextTurn x0 m x2 ds up ready) with c | c
  · exact .inr (.inr c)
  exfalso
  obtain ⟨h1, h2, h3, h4⟩ := plan_rows h
  have ht := lk_turn (up := up) h hm hx2 hr0 hr1
  have hfit := fit_one hm hs hs0 a
  have key : lockPlanOk x0 m x2 fl (appMid x2 (nextTurn x0 m x2 ds up ready) ds up [(s : Int)]) = true := by
    rcases turn_is (up := up) h hr0 hr1 with ⟨e0, e⟩ | ⟨e0, s0, e⟩
    · have hl : lastUp ds up = false := by unfold lastUp; rw [e0]; rfl
      rw [appMid_no hl]
      exact plan_mk h1 h2 (by simp; omega) (plan_snoc h4 (by show 0 ≤ nextTurn x0 m x2 ds up ready; omega) c (.inl e0) hfit)
    · by_cases hu : (ds.getD (ds.length - 1) default).up = up
      · rw [if_pos hu] at e
        have hl : lastUp ds up = true := by unfold lastUp upSame; rw [hu]; simp; omega
        rw [appMid_yes hl]
        have p1 := plan_snoc (l := ⟨nextTurn x0 m x2 ds up ready - x2, !up, []⟩) h4 (by show 0 ≤ nextTurn x0 m x2 ds up ready - x2; omega) (by show nextTurn x0 m x2 ds up ready - x2 ≤ 2880; omega) (.inr ⟨by show _ ≤ nextTurn x0 m x2 ds up ready - x2; omega, by rw [hu]; simp⟩) (fit_nil x0 m fl)
        refine plan_mk h1 h2 (by simp; omega) (plan_snoc p1 (by show 0 ≤ nextTurn x0 m x2 ds up ready; omega) c (.inr ?_) hfit)
        rw [getD_end (by simp)]
        exact ⟨by show nextTurn x0 m x2 ds up ready - x2 + x2 ≤ nextTurn x0 m x2 ds up ready; omega, by simp⟩
      · rw [if_neg hu] at e
        have hl : lastUp ds up = false := by unfold lastUp upSame; simp; intro _; exact hu
        rw [appMid_no hl]
        exact plan_mk h1 h2 (by simp; omega) (plan_snoc h4 (by show 0 ≤ nextTurn x0 m x2 ds up ready; omega) c (.inr ⟨by show _ ≤ nextTurn x0 m x2 ds up ready; omega, fun e => hu e.symm⟩) hfit)
  have hok : appOk x0 m x2 fl ds up ready = true := by unfold appOk; rw [h]; simp only [Bool.true_and, decide_eq_true_eq]; omega
  unfold appendLocking at hn
  rw [hok, key] at hn
  cases hn
end
/-- starts rise -/
theorem starts_rise {x0 x2 : Int} {m : Nat} {fl : List ShipD} {ds : List LockD} (hx2 : 0 ≤ x2) (h : allUpTo (planRow x0 x2 m fl ds) ds.length = true) {i : Nat} : ∀ (d : Nat), i + d < ds.length → (ds.getD i default).start ≤ (ds.getD (i + d) default).start
  | 0, _ => Int.le_refl _
  | d + 1, hd => by
    have h1 := starts_rise hx2 h (i := i) d (by omega)
    have h2 := allUpTo_iff.1 h (i + (d + 1)) hd
    unfold planRow at h2
    rw [show i + (d + 1) - 1 = i + d by omega] at h2
    simp only [Bool.and_eq_true, Bool.or_eq_true, Bool.not_eq_true', decide_eq_true_eq, decide_eq_false_iff_not] at h2
    rcases h2.1.2 with e | e
    · omega
    · have := e.1; omega
theorem lk_locked {x0 x2 : Int} {m : Nat} {fl : List ShipD} {ds : List LockD} {up : Bool} {t : Int} {s : Int} (hx2 : 0 ≤ x2) (h : lockPlanOk x0 m x2 fl (ds ++ [(⟨t, up, [s]⟩ : LockD)]) = true) : 0 ≤ lockedAt (ds ++ [(⟨t, up, [s]⟩ : LockD)]) s up ∧ lockedAt (ds ++ [(⟨t, up, [s]⟩ : LockD)]) s up ≤ t := by
  obtain ⟨-, -, -, h4⟩ := plan_rows h
  have hlast : lkRow (ds ++ [(⟨t, up, [s]⟩ : LockD)]) s up ds.length = true := by
    unfold lkRow; rw [getD_end rfl]
    simp [hasI, hasAt, allUpTo]
  have hr := firstUpTo_range (lkRow (ds ++ [(⟨t, up, [s]⟩ : LockD)]) s up) (ds ++ [(⟨t, up, [s]⟩ : LockD)]).length
  by_cases hf : firstUpTo (lkRow (ds ++ [(⟨t, up, [s]⟩ : LockD)]) s up) (ds ++ [(⟨t, up, [s]⟩ : LockD)]).length < 0
  · exfalso
    have hno : ∀ k, k < (ds ++ [(⟨t, up, [s]⟩ : LockD)]).length → lkRow (ds ++ [(⟨t, up, [s]⟩ : LockD)]) s up k = false := by
      intro k
      induction k using Nat.strongRecOn with
      | _ k ih =>
        intro hk
        cases e : lkRow (ds ++ [(⟨t, up, [s]⟩ : LockD)]) s up k with
        | false => rfl
        | true =>
          have := firstUpTo_hit (fun j hj => ih j hj (by omega)) e hk
          omega
    have := hno ds.length (by simp)
    rw [hlast] at this; cases this
  · obtain ⟨k, hk⟩ : ∃ k : Nat, firstUpTo (lkRow (ds ++ [(⟨t, up, [s]⟩ : LockD)]) s up) (ds ++ [(⟨t, up, [s]⟩ : LockD)]).length = k := ⟨_, (Int.toNat_of_nonneg (by omega)).symm⟩
    obtain ⟨k1, k2, k3⟩ := firstUpTo_spec hk
    rw [lockedAt_hit k3 k2 k1]
    have hs := planRow_start h4 k1
    refine ⟨hs.1, ?_⟩
    have := starts_rise hx2 h4 (i := k) (ds.length - k) (by simp at k1 ⊢; omega)
    rw [getD_end (show k + (ds.length - k) = ds.length by simp at k1; omega)] at this
    exact this
theorem lk_order {ds : List LockD} {up : Bool} {t s : Int} : lkOrd (ds ++ [(⟨t, up, [s]⟩ : LockD)]) up = lkOrd ds up ++ [s] := by
  unfold lkOrd
  rw [List.flatMap_append]
  simp [lkOf]
theorem emptyTo_app {ds : List LockD} {l : LockD} : ∀ k : Nat, k ≤ ds.length → emptyTo (ds ++ [l]) k = emptyTo ds k
  | 0, _ => rfl
  | k + 1, h => by rw [emptyTo, emptyTo, emptyTo_app k (by omega), getD_app (by omega)]
theorem empty_snoc {ds : List LockD} {l : LockD} : emptyLockings (ds ++ [l]) = emptyLockings ds + (if l.ships.length = 0 then 1 else 0) := by
  unfold emptyLockings
  rw [List.length_append, List.length_singleton, emptyTo, emptyTo_app _ (Nat.le_refl _), getD_end rfl]
end Go.Proofs.Ytjmffhpfmfmnlaa

/- Windows as the laws' helpers handle them: conversion, comparison, marks. No condition. -/
import Derived.Test.YtjfppjhlkeopnaaFix
namespace Go.Proofs.Ytjfppjhlkeopnaa
open Go.RowKit
set_option linter.unusedVariables false

structure WindowD where
  start : Int
  fin : Int

theorem WindowD.ext_iff' (x y : WindowD) : (x.start = y.start ∧ x.fin = y.fin) ↔ x = y := by
  cases x; cases y; simp
instance : DecidableEq WindowD := fun x y => decidable_of_iff _ (WindowD.ext_iff' x y)
def WindowD.eqB (x y : WindowD) : Bool := decide (x = y)
instance : Inhabited WindowD := ⟨⟨0, 0⟩⟩
def WindowD.enc (x : WindowD) : List Value := [.int .i64 x.start, .int .i64 x.fin]
theorem WindowD.enc_len (x : WindowD) : x.enc.length = 2 := rfl
abbrev WindowD.val (x : WindowD) : Value := .agg #[.int .i64 x.start, .int .i64 x.fin]
/-- its numbers are int64s, its texts have a length that an int holds -/
def WindowD.ok (x : WindowD) : Prop := (Lit.int .i64 x.start).wf = true ∧ (Lit.int .i64 x.fin).wf = true
abbrev RdWindow (w : World) (v : Value) (xs : List WindowD) : Prop := Rd w 2 WindowD.enc v xs
theorem window_info : (Try.prog.info? 117).map (fun i => (i.zero, i.size, i.bytes)) = some (some (.agg #[.int .i64 0, .int .i64 0]), 2, 16) := by kernel_rfl
theorem eqWindow_split (x0 : Int) (x1 : Int) (y0 : Int) (y1 : Int) (P : Bool → Prop)
    (h0 : x0 ≠ y0 → P false)
    (h1 : x0 = y0 → x1 ≠ y1 → P false)
    (h : x0 = y0 → x1 = y1 → P true) : P (WindowD.eqB ⟨x0, x1⟩ ⟨y0, y1⟩) := by
  unfold WindowD.eqB
  by_cases e0 : x0 = y0
  case neg =>
    have : ¬ (⟨x0, x1⟩ : WindowD) = ⟨y0, y1⟩ := by intro h; injection h; contradiction
    simp only [this, decide_false]; exact h0  e0
  by_cases e1 : x1 = y1
  case neg =>
    have : ¬ (⟨x0, x1⟩ : WindowD) = ⟨y0, y1⟩ := by intro h; injection h; contradiction
    simp only [this, decide_false]; exact h1 e0 e1
  subst e0 e1
  simp only [decide_true]; exact h rfl rfl
set_option maxHeartbeats 2000000 in
theorem eqWindow_any (x0 : Int) (x1 : Int) (y0 : Int) (y1 : Int) (w : World) :
    Calls Try.prog 80 #[.agg #[.int .i64 x0, .int .i64 x1], .agg #[.int .i64 y0, .int .i64 y1]] w fun e w' => e = .returned (.bool (WindowD.eqB ⟨x0, x1⟩ ⟨y0, y1⟩)) ∧ Below w.heap.size w w' := by
  refine eqWindow_split x0 x1 y0 y1 (fun r => Calls Try.prog 80 #[.agg #[.int .i64 x0, .int .i64 x1], .agg #[.int .i64 y0, .int .i64 y1]] w fun e w' => e = .returned (.bool r) ∧ Below w.heap.size w w') ?_ ?_ ?_
  · intro e0
    have q0 : (x0 != y0) = true := by simpa using e0
    clear e0
    go_enter Try.func80, Try.ntmps80
    go_wp2_with fail
    go_ret
    exact ⟨rfl, (by repeat (first | exact Below.refl _ _ | assumption | refine Below.setCell ?_ (by first | omega | (simp <;> omega)) _ | refine Below.alloc ?_ (by first | omega | (simp <;> omega)) _ | refine below_drewN ?_ _ | refine Below.drew ?_ | refine Below.trans ?_ (Below.mono (by assumption) (by first | omega | (simp <;> omega)))))⟩
  · intro e0 e1
    subst e0
    have q1 : (x1 != y1) = true := by simpa using e1
    clear e1
    go_enter Try.func80, Try.ntmps80
    go_wp2_with fail
    go_ret
    exact ⟨rfl, (by repeat (first | exact Below.refl _ _ | assumption | refine Below.setCell ?_ (by first | omega | (simp <;> omega)) _ | refine Below.alloc ?_ (by first | omega | (simp <;> omega)) _ | refine below_drewN ?_ _ | refine Below.drew ?_ | refine Below.trans ?_ (Below.mono (by assumption) (by first | omega | (simp <;> omega)))))⟩
  · intro e0 e1
    subst e0
    subst e1
    go_enter Try.func80, Try.ntmps80
    go_wp2_with fail
    go_ret
    exact ⟨rfl, (by repeat (first | exact Below.refl _ _ | assumption | refine Below.setCell ?_ (by first | omega | (simp <;> omega)) _ | refine Below.alloc ?_ (by first | omega | (simp <;> omega)) _ | refine below_drewN ?_ _ | refine Below.drew ?_ | refine Below.trans ?_ (Below.mono (by assumption) (by first | omega | (simp <;> omega)))))⟩
set_option maxHeartbeats 2000000 in
theorem eqWindowS_any (v1 v2 : Value) (xs ys : List WindowD) (w : World) (h1 : RdWindow w v1 xs) (h2 : RdWindow w v2 ys) :
    Calls Try.prog 45 #[v1, v2] w fun e w' => e = .returned (.bool (decide (xs = ys))) ∧ Below w.heap.size w w' := by
  obtain ⟨A1, c1, rfl, hc1, hm1, h1⟩ := h1
  obtain ⟨A2, c2, rfl, hc2, hm2, h2⟩ := h2
  unfold maxLen at hm1 hm2
  by_cases hl : xs.length = ys.length
  · have hlt : ((xs.length : Int) != (ys.length : Int)) = false := by simp [hl]
    have HL := hide hl
    clear hl
    go_enter Try.func45, Try.ntmps45
    go_wp2
    go_loopw [5] (fun i wr => ∃ k : Nat, k ≤ xs.length ∧ i = .int .i64 k ∧ Hid (xs.take k = ys.take k) ∧ Below w.heap.size w wr) (fun i _ => xs.length - (intOf i).toNat)
    case atStart => exact ⟨0, Nat.zero_le _, rfl, hide rfl, Below.refl _ _⟩
    case round =>
      obtain ⟨k, hk, rfl, HT, hb⟩ := hrel
      by_cases hlt : k < xs.length
      · obtain ⟨b1, o1, rfl, hb1, hcell1⟩ := h1 (by omega)
        obtain ⟨b2, o2, rfl, hb2, hcell2⟩ := h2 (by have := HL.out; omega)
        have hk2 : k < ys.length := by have := HL.out; omega
        have e0 : wr.cell? ⟨b1, o1 + k * 2, none⟩ = some (.int .i64 (xs[k]).start) := by
          rw [hb.cell (p := ⟨b1, _, none⟩) hb1]; have := hcell1 k xs[k] (List.getElem?_eq_getElem hlt) 0 _ rfl; simpa using this
        have e1 : wr.cell? ⟨b1, o1 + k * 2 + 1, none⟩ = some (.int .i64 (xs[k]).fin) := by
          rw [hb.cell (p := ⟨b1, _, none⟩) hb1]; have := hcell1 k xs[k] (List.getElem?_eq_getElem hlt) 1 _ rfl; simpa using this
        have f0 : wr.cell? ⟨b2, o2 + k * 2, none⟩ = some (.int .i64 (ys[k]).start) := by
          rw [hb.cell (p := ⟨b2, _, none⟩) hb2]; have := hcell2 k ys[k] (List.getElem?_eq_getElem hk2) 0 _ rfl; simpa using this
        have f1 : wr.cell? ⟨b2, o2 + k * 2 + 1, none⟩ = some (.int .i64 (ys[k]).fin) := by
          rw [hb.cell (p := ⟨b2, _, none⟩) hb2]; have := hcell2 k ys[k] (List.getElem?_eq_getElem hk2) 1 _ rfl; simpa using this
        have hz1 : b1 < wr.heap.size := Nat.lt_of_lt_of_le hb1 hb.size
        have hz2 : b2 < wr.heap.size := Nat.lt_of_lt_of_le hb2 hb.size
        have hk2' : (k : Int) < (ys.length : Int) := by omega
        clear hcell1 hcell2 h1 h2
        by_cases he : xs[k] = ys[k]
        · have HE := hide he
          have he' : WindowD.eqB xs[k] ys[k] = true := by simpa [WindowD.eqB] using he
          clear he
          go_wp2_with fail
          refine wp_region_below (Below.refl wr.heap.size _) (by kernel_rfl) (by kernel_rfl) ?_
          repeat (first
            | go_big_quiet_skip
            | (go_big_quiet_want
               first
                | (refine quiet_value ?_; apply Exists.intro
                   refine ⟨fun wq hq => ?_, ?_⟩
                   · (obtain ⟨hc, hf⟩ := bcell hq; go_simp; first | done | rfl)
                   go_big_quiet_on
                   simp only [Act.put, List.setIfInBounds_toArray, List.set_cons_zero, List.set_cons_succ])
                | (refine quiet_call ?_; apply Exists.intro; apply Exists.intro; apply Exists.intro
                   refine ⟨fun wq hq => ?_, fun wq hq => ?_, ?_⟩
                   · (obtain ⟨hc, hf⟩ := bcell hq; go_simp; exact ⟨rfl, rfl⟩)
                   · (first | with_reducible exact (eqWindow_any _ _ _ _ _).mono fun e w'' ⟨he, hw⟩ => ⟨he, hw ▸ hq⟩ | with_reducible exact (eqWindow_any _ _ _ _ _).mono fun e w'' ⟨he, hb'⟩ => ⟨he, bnext hq hb'⟩ |  exact (eqWindow_any _ _ _ _ _).mono fun e w'' ⟨he, hb'⟩ => ⟨he, bnext hq hb'⟩ |  exact (eqWindow_any _ _ _ _ _).mono fun e w'' ⟨he, hw⟩ => ⟨he, hw ▸ hq⟩)
                   go_big_quiet_on
                   simp only [Act.put, List.setIfInBounds_toArray, List.set_cons_zero, List.set_cons_succ])
                | (go_big_quiet_op; go_big_quiet_on)
               ))
          refine wpQuiet_nil (fun w1 hb' => ?_)
          obtain ⟨hc, hf⟩ := bcell hb'
          have hz := hb'.size; (try simp at hz)
          go_wp2
          go_roundw
          case rel => exact ⟨k + 1, by omega, by go_num, hide (take_succ_eq HT.out hlt hk2 HE.out), bnext hb hb' (Nat.le_refl _)⟩
          case measure => simp [intOf]; omega
        · have HE := hide he
          have he' : WindowD.eqB xs[k] ys[k] = false := by simpa [WindowD.eqB] using he
          clear he
          go_wp2_with fail
          refine wp_region_below (Below.refl wr.heap.size _) (by kernel_rfl) (by kernel_rfl) ?_
          repeat (first
            | go_big_quiet_skip
            | (go_big_quiet_want
               first
                | (refine quiet_value ?_; apply Exists.intro
                   refine ⟨fun wq hq => ?_, ?_⟩
                   · (obtain ⟨hc, hf⟩ := bcell hq; go_simp; first | done | rfl)
                   go_big_quiet_on
                   simp only [Act.put, List.setIfInBounds_toArray, List.set_cons_zero, List.set_cons_succ])
                | (refine quiet_call ?_; apply Exists.intro; apply Exists.intro; apply Exists.intro
                   refine ⟨fun wq hq => ?_, fun wq hq => ?_, ?_⟩
                   · (obtain ⟨hc, hf⟩ := bcell hq; go_simp; exact ⟨rfl, rfl⟩)
                   · (first | with_reducible exact (eqWindow_any _ _ _ _ _).mono fun e w'' ⟨he, hw⟩ => ⟨he, hw ▸ hq⟩ | with_reducible exact (eqWindow_any _ _ _ _ _).mono fun e w'' ⟨he, hb'⟩ => ⟨he, bnext hq hb'⟩ |  exact (eqWindow_any _ _ _ _ _).mono fun e w'' ⟨he, hb'⟩ => ⟨he, bnext hq hb'⟩ |  exact (eqWindow_any _ _ _ _ _).mono fun e w'' ⟨he, hw⟩ => ⟨he, hw ▸ hq⟩)
                   go_big_quiet_on
                   simp only [Act.put, List.setIfInBounds_toArray, List.set_cons_zero, List.set_cons_succ])
                | (go_big_quiet_op; go_big_quiet_on)
               ))
          refine wpQuiet_nil (fun w1 hb' => ?_)
          obtain ⟨hc, hf⟩ := bcell hb'
          have hz := hb'.size; (try simp at hz)
          go_wp2
          go_ret
          refine ⟨?_, bnext hb hb' (Nat.le_refl _)⟩
          have : xs ≠ ys := fun e => HE.out (by subst e; rfl)
          simp [this]
      · obtain rfl : k = xs.length := by omega
        go_wp2
        go_ret
        refine ⟨?_, hb⟩
        have h := HT.out
        rw [List.take_length, HL.out, List.take_length] at h
        simp [h]
  · have hlt : ((xs.length : Int) != (ys.length : Int)) = true := by simp; omega
    have HL := hide hl
    clear hl
    go_enter Try.func45, Try.ntmps45
    go_wp2
    go_ret
    have : xs ≠ ys := fun e => HL.out (by rw [e])
    exact ⟨by simp [this], (by repeat (first | exact Below.refl _ _ | assumption | refine Below.setCell ?_ (by first | omega | (simp <;> omega)) _ | refine Below.alloc ?_ (by first | omega | (simp <;> omega)) _ | refine below_drewN ?_ _ | refine Below.drew ?_ | refine Below.trans ?_ (Below.mono (by assumption) (by first | omega | (simp <;> omega)))))⟩
def WindowD.mk' (k : Int) : WindowD := ⟨(k), (k + 1)⟩
set_option maxHeartbeats 4000000 in
theorem markWindowS_any (v : Value) (xs : List WindowD) (k : Int) (base : Nat) (w : World) (h1 : Own w base 117 2 WindowD.enc v xs) (hk0 : 1 ≤ k) (hk1 : k ≤ 1099511627776) (hn : xs.length ≤ 1073741824) :
    Calls Try.prog 48 #[v, .int .i64 k] w fun e w' => e = .returned (.int .i64 (k + xs.length * 2)) ∧ Own w' base 117 2 WindowD.enc v (marks WindowD.mk' 2 k xs.length) ∧ w.grownBy w' v.ownBlock := by
  rcases h1.cases with ⟨rfl, rfl⟩ | ⟨g, cap, rfl, hg, hgs, hnc, hm⟩
  · go_enter Try.func48, Try.ntmps48
    go_wp2
    go_loop [1, 5] (fun kv i => kv = .int .i64 k ∧ i = .int .i64 0) (fun _ _ => 0)
    case atStart => exact ⟨rfl, rfl⟩
    case round =>
      obtain ⟨rfl, rfl⟩ := hrel
      go_wp2
      go_ret
      exact ⟨by simp, by simpa [marks] using h1, World.grownBy.refl _ _⟩
  · unfold maxLen at hm
    go_enter Try.func48, Try.ntmps48
    go_wp2
    go_loopw [1, 5] (fun kv i wr => ∃ (j : Nat) (q : Int), j ≤ xs.length ∧ i = .int .i64 j ∧ kv = .int .i64 q ∧ Hid (q = k + (j : Int) * (2 : Nat)) ∧ 1 ≤ q ∧ q ≤ 2199023255552 ∧ Own wr base 117 2 WindowD.enc (.slice (some ⟨g, 0, none⟩) xs.length cap) (marks WindowD.mk' 2 k j ++ xs.drop j) ∧ w.grownBy wr (some g)) (fun _ i _ => xs.length - (intOf i).toNat)
    case atStart => exact ⟨0, k, Nat.zero_le _, rfl, rfl, hide (by simp), by omega, by omega, by simpa [marks] using h1, World.grownBy.refl _ _⟩
    case round =>
      obtain ⟨j, q, hj, rfl, rfl, HQ, q0, q1, HO, hgr⟩ := hrel
      by_cases hlt : j < xs.length
      · have hml := marks_mid_length WindowD.mk' 2 k xs j hj
        have HM := hide hml
        have hj' : j < (marks WindowD.mk' 2 k j ++ xs.drop j).length := by omega
        have hq2 : q + 2 ≤ 2199023255552 := by have := HQ.out; omega
        obtain ⟨e0, f0⟩ := Own.cells (i := j) (j := 0) WindowD.enc_len (by rw [hml]; exact HO) hj' rfl
        obtain ⟨e1, f1⟩ := Own.cells (i := j) (j := 1) WindowD.enc_len (by rw [hml]; exact HO) hj' rfl
        simp only [Nat.add_zero] at e0 f0
        have hzz : g < wr.heap.size := Nat.lt_of_lt_of_le hgs hgr.size
        clear hml
        go_wp2
        go_roundw
        case rel =>
          refine ⟨j + 1, q + 2, by omega, by go_num, by go_num, hide (by have := HQ.out; omega), by omega, by omega, ?_, ?_⟩
          · have := Own.setRow (i := j) WindowD.enc_len (by rw [HM.out]; exact HO) hj' (WindowD.mk' q)
            rw [HM.out] at this
            have e := marks_step WindowD.mk' 2 k xs j hlt
            rw [← HQ.out] at e
            rw [e] at this
            simpa [storeRow, WindowD.enc, WindowD.mk', Nat.add_assoc] using this
          · have := grownBy_storeRow (g := g) (WindowD.mk' q).enc _ (j * 2) hgr
            simpa [storeRow, WindowD.enc, WindowD.mk', Nat.add_assoc] using this
        case measure => simp [intOf]; omega
      · obtain rfl : j = xs.length := by omega
        go_wp2
        go_ret
        exact ⟨by have := HQ.out; simp at this; simp [this], by simpa using HO, hgr⟩
set_option maxHeartbeats 4000000 in
theorem heldWindowS_any (v : Value) (k : Int) (n : Nat) (w : World) (h1 : RdWindow w v (marks WindowD.mk' 2 k n)) (hk0 : 1 ≤ k) (hk1 : k ≤ 1099511627776) (hn : n ≤ 1073741824) :
    Calls Try.prog 49 #[v, .int .i64 k] w fun e w' => e = .returned (.int .i64 (k + n * 2)) ∧ Below w.heap.size w w' := by
  obtain ⟨A1, c1, rfl, hc1, hm1, h1⟩ := h1
  rw [marks_length] at *
  unfold maxLen at hm1
  go_enter Try.func49, Try.ntmps49
  go_wp2
  go_loop [1, 5] (fun kv i => ∃ (j : Nat) (q : Int), j ≤ n ∧ i = .int .i64 j ∧ kv = .int .i64 q ∧ Hid (q = k + (j : Int) * (2 : Nat)) ∧ 1 ≤ q ∧ q ≤ 2199023255552) (fun _ i => n - (intOf i).toNat)
  case atStart => exact ⟨0, k, Nat.zero_le _, rfl, rfl, hide (by simp), by omega, by omega⟩
  case round =>
    obtain ⟨j, q, hj, rfl, rfl, HQ, q0, q1⟩ := hrel
    by_cases hlt : j < n
    · obtain ⟨b1, o1, rfl, hb1, hcell1⟩ := h1 (by omega)
      have hq2 : q + 2 ≤ 2199023255552 := by have := HQ.out; omega
      have e0 : w.cell? ⟨b1, o1 + j * 2, none⟩ = some (.int .i64 q) := by have := hcell1 j _ (marks_get WindowD.mk' 2 k n j hlt) 0 _ rfl; rw [← HQ.out] at this; simpa [WindowD.mk'] using this
      have e1 : w.cell? ⟨b1, o1 + j * 2 + 1, none⟩ = some (.int .i64 (q + 1)) := by have := hcell1 j _ (marks_get WindowD.mk' 2 k n j hlt) 1 _ rfl; rw [← HQ.out] at this; simpa [WindowD.mk'] using this
      clear hcell1 h1
      go_wp2
      go_round
      case rel => exact ⟨j + 1, q + 2, by omega, by go_num, by go_num, hide (by have := HQ.out; omega), by omega, by omega⟩
      case measure => simp [intOf]; omega
    · obtain rfl : j = n := by omega
      go_wp2
      go_ret
      exact ⟨by have := HQ.out; simp at this; simp [this], Below.refl _ _⟩
end Go.Proofs.Ytjfppjhlkeopnaa

/- Stays as the laws' helpers handle them: conversion, comparison, marks. No condition. -/
import Derived.Test.YtjfppjhlkeopnaaFix
namespace Go.Proofs.Ytjfppjhlkeopnaa
open Go.RowKit
set_option linter.unusedVariables false

structure StayD where
  ship : Int
  berth : Int
  start : Int
  fin : Int

theorem StayD.ext_iff' (x y : StayD) : (x.ship = y.ship ∧ x.berth = y.berth ∧ x.start = y.start ∧ x.fin = y.fin) ↔ x = y := by
  cases x; cases y; simp
instance : DecidableEq StayD := fun x y => decidable_of_iff _ (StayD.ext_iff' x y)
def StayD.eqB (x y : StayD) : Bool := decide (x = y)
instance : Inhabited StayD := ⟨⟨0, 0, 0, 0⟩⟩
def StayD.enc (x : StayD) : List Value := [.int .i64 x.ship, .int .i64 x.berth, .int .i64 x.start, .int .i64 x.fin]
theorem StayD.enc_len (x : StayD) : x.enc.length = 4 := rfl
abbrev StayD.val (x : StayD) : Value := .agg #[.int .i64 x.ship, .int .i64 x.berth, .int .i64 x.start, .int .i64 x.fin]
/-- its numbers are int64s, its texts have a length that an int holds -/
def StayD.ok (x : StayD) : Prop := (Lit.int .i64 x.ship).wf = true ∧ (Lit.int .i64 x.berth).wf = true ∧ (Lit.int .i64 x.start).wf = true ∧ (Lit.int .i64 x.fin).wf = true
abbrev RdStay (w : World) (v : Value) (xs : List StayD) : Prop := Rd w 4 StayD.enc v xs
theorem stay_info : (Try.prog.info? 97).map (fun i => (i.zero, i.size, i.bytes)) = some (some (.agg #[.int .i64 0, .int .i64 0, .int .i64 0, .int .i64 0]), 4, 32) := by kernel_rfl
section
open Go.ChangeShapes Go.WideShapes Go.Deep
set_option maxRecDepth 100000 in
theorem rowStay {H : Type} {enc : TypeId × Value → H} {W : World} {fs : Array Field} (hs : Try.prog.underlying 102 = some (.struct fs)) : ∀ us : List Value, us.length = fs.size → (∀ (j : Nat) (f : Field), fs[j]? = some f → ∃ (u : Value) (y : DataW H × List MemPlace) (n : Nat), us[j]? = some u ∧ DataW.trod enc Try.prog W 0 (fun _ => true) true n f.type [u] = some y) → ∃ x : StayD, x.enc = us ∧ x.ok := by
  rw [Try.underlying102] at hs
  have hs := Option.some.inj hs
  injection hs with hs
  subst hs
  intro us hl hf
  obtain ⟨c0, c1, c2, c3, rfl⟩ := list4 hl
  obtain ⟨u0, y0, m0, g0, hy0⟩ := hf 0 _ rfl
  have g0 := Option.some.inj g0; subst g0
  obtain ⟨a0, e0, -, w0⟩ := DataW.trod_int Try.underlying3 hy0
  simp only [List.cons.injEq, and_true] at e0; subst e0
  obtain ⟨u1, y1, m1, g1, hy1⟩ := hf 1 _ rfl
  have g1 := Option.some.inj g1; subst g1
  obtain ⟨a1, e1, -, w1⟩ := DataW.trod_int Try.underlying3 hy1
  simp only [List.cons.injEq, and_true] at e1; subst e1
  obtain ⟨u2, y2, m2, g2, hy2⟩ := hf 2 _ rfl
  have g2 := Option.some.inj g2; subst g2
  obtain ⟨a2, e2, -, w2⟩ := DataW.trod_int Try.underlying3 hy2
  simp only [List.cons.injEq, and_true] at e2; subst e2
  obtain ⟨u3, y3, m3, g3, hy3⟩ := hf 3 _ rfl
  have g3 := Option.some.inj g3; subst g3
  obtain ⟨a3, e3, -, w3⟩ := DataW.trod_int Try.underlying3 hy3
  simp only [List.cons.injEq, and_true] at e3; subst e3
  exact ⟨⟨a0, a1, a2, a3⟩, rfl, ⟨w0, w1, w2, w3⟩⟩
set_option maxRecDepth 100000 in
theorem openStayS {H : Type} {enc : TypeId × Value → H} {W : World} {r : Reach} {b0 : Nat} {v : Value} {d : DataW H} {p : List MemPlace} (hv : Value.okWide Try.prog W r b0 34 v)
    (h : DataW.Trod enc Try.prog W 0 (fun _ => true) true 34 v d p) : ∃ xs : List StayD, RdStay W v xs ∧ ∀ x ∈ xs, x.ok := open_rows Try.underlying34 Try.underlying102 (by kernel_rfl) (by kernel_rfl) (by decide) hv h (rowStay Try.underlying102)
set_option maxRecDepth 100000 in
theorem openStayT {H : Type} {enc : TypeId × Value → H} {W : World} {v : Value} {y : DataW H × List MemPlace} {fuel : Nat} (h : DataW.trod enc Try.prog W 0 (fun _ => true) true fuel 34 [v] = some y) : ∃ xs : List StayD, RdStay W v xs ∧ ∀ x ∈ xs, x.ok :=
  open_rowsT Try.underlying34 Try.underlying102 (by kernel_rfl) (by kernel_rfl) (by decide) h (rowStay Try.underlying102)
end
section
open Go.ChangeShapes Go.WideShapes Go.Deep
set_option maxRecDepth 100000 in
theorem openStay {H : Type} {enc : TypeId × Value → H} {W : World} {r : Reach} {b0 : Nat} {v : Value} {d : DataW H} {p : List MemPlace} (hv : Value.okWide Try.prog W r b0 102 v)
    (h : DataW.Trod enc Try.prog W 0 (fun _ => true) true 102 v d p) : ∃ x : StayD, v = x.val ∧ x.ok := by
  obtain ⟨cs, rfl, hl, hf⟩ := open_struct Try.underlying102 (by kernel_rfl) (by kernel_rfl) hv h
  obtain ⟨c0, c1, c2, c3, rfl⟩ := list4 hl
  obtain ⟨u0, y0, m0, g0, hy0⟩ := hf 0 _ rfl
  have g0 := Option.some.inj g0; subst g0
  obtain ⟨a0, e0, -, w0⟩ := DataW.trod_int Try.underlying3 hy0
  simp only [List.cons.injEq, and_true] at e0; subst e0
  obtain ⟨u1, y1, m1, g1, hy1⟩ := hf 1 _ rfl
  have g1 := Option.some.inj g1; subst g1
  obtain ⟨a1, e1, -, w1⟩ := DataW.trod_int Try.underlying3 hy1
  simp only [List.cons.injEq, and_true] at e1; subst e1
  obtain ⟨u2, y2, m2, g2, hy2⟩ := hf 2 _ rfl
  have g2 := Option.some.inj g2; subst g2
  obtain ⟨a2, e2, -, w2⟩ := DataW.trod_int Try.underlying3 hy2
  simp only [List.cons.injEq, and_true] at e2; subst e2
  obtain ⟨u3, y3, m3, g3, hy3⟩ := hf 3 _ rfl
  have g3 := Option.some.inj g3; subst g3
  obtain ⟨a3, e3, -, w3⟩ := DataW.trod_int Try.underlying3 hy3
  simp only [List.cons.injEq, and_true] at e3; subst e3
  exact ⟨⟨a0, a1, a2, a3⟩, rfl, ⟨w0, w1, w2, w3⟩⟩
end
set_option maxHeartbeats 1000000 in
theorem toStay_any (x0 : Int) (x1 : Int) (x2 : Int) (x3 : Int) (w : World) :
    Calls Try.prog 59 #[.agg #[.int .i64 x0, .int .i64 x1, .int .i64 x2, .int .i64 x3]] w fun e w' => e = .returned (.agg #[.int .i64 x0, .int .i64 x1, .int .i64 x2, .int .i64 x3]) ∧ Below w.heap.size w w' := by
  go_enter Try.func59, Try.ntmps59
  go_wp2_with fail
  exact bodyPost_ret (v := .agg #[.int .i64 x0, .int .i64 x1, .int .i64 x2, .int .i64 x3]) (by simp [results, Try.results59, go_sem]) rfl ⟨rfl, (by repeat (first | exact Below.refl _ _ | assumption | refine Below.setCell ?_ (by first | omega | (simp <;> omega)) _ | refine Below.alloc ?_ (by first | omega | (simp <;> omega)) _ | refine below_drewN ?_ _ | refine Below.drew ?_ | refine Below.trans ?_ (Below.mono (by assumption) (by first | omega | (simp <;> omega)))))⟩
set_option maxHeartbeats 2000000 in
theorem toStayS_at (v1 : Value) (xs : List StayD) (w : World) (h1 : RdStay w v1 xs) (hn : xs.length ≤ 1048576) :
    Calls Try.prog 21 #[v1] w fun e w' => e = .returned (.slice (some ⟨w.heap.size, 0, none⟩) xs.length xs.length) ∧ Own w' w.heap.size 97 4 StayD.enc (.slice (some ⟨w.heap.size, 0, none⟩) xs.length xs.length) xs ∧ Below w.heap.size w w' := by
  obtain ⟨A1, c1, rfl, hc1, hm1, h1⟩ := h1
  unfold maxLen at hm1
  obtain ⟨i0, hi0, hz0, hz1, hz2⟩ := info_parts stay_info
  go_enter Try.func21, Try.ntmps21
  go_wp2_with (refine wpList_make_full _ rfl (.tmp 6) (.tmp 6) _ rfl w.heap.size 97 i0 _ 4 Try.underlying37 hi0 hz0 hz1 _ _ _ _ xs.length rfl rfl rfl rfl (by rw [hz2]; omega) (by unfold maxLen; omega) (Nat.le_refl _) ?_; intro w1 hown hg)
  have hb : Below w.heap.size w w1 := (Below.refl _ _).grown hg (Nat.le_refl _) (by simp)
  have HF : Filled w1 w.heap.size 97 4 StayD.enc w.heap.size xs.length ([] : List StayD) := Filled.start hown
  clear hown hg
  go_loopw [4] (fun i wr => ∃ k : Nat, k ≤ xs.length ∧ i = .int .i64 k ∧ Filled wr w.heap.size 97 4 StayD.enc w.heap.size xs.length (xs.take k) ∧ Below w.heap.size w wr) (fun i _ => xs.length - (intOf i).toNat)
  case atStart => exact ⟨0, Nat.zero_le _, rfl, HF, hb⟩
  case round =>
    clear HF hb
    obtain ⟨k, hk, rfl, HF, hb⟩ := hrel
    by_cases hlt : k < xs.length
    · obtain ⟨b1, o1, rfl, hb1, hcell1⟩ := h1 (by omega)
      have e0 : wr.cell? ⟨b1, o1 + k * 4, none⟩ = some (.int .i64 (xs[k]).ship) := by
        rw [hb.cell (p := ⟨b1, _, none⟩) hb1]; have := hcell1 k xs[k] (List.getElem?_eq_getElem hlt) 0 _ rfl; simpa using this
      have e1 : wr.cell? ⟨b1, o1 + k * 4 + 1, none⟩ = some (.int .i64 (xs[k]).berth) := by
        rw [hb.cell (p := ⟨b1, _, none⟩) hb1]; have := hcell1 k xs[k] (List.getElem?_eq_getElem hlt) 1 _ rfl; simpa using this
      have e2 : wr.cell? ⟨b1, o1 + k * 4 + 2, none⟩ = some (.int .i64 (xs[k]).start) := by
        rw [hb.cell (p := ⟨b1, _, none⟩) hb1]; have := hcell1 k xs[k] (List.getElem?_eq_getElem hlt) 2 _ rfl; simpa using this
      have e3 : wr.cell? ⟨b1, o1 + k * 4 + 3, none⟩ = some (.int .i64 (xs[k]).fin) := by
        rw [hb.cell (p := ⟨b1, _, none⟩) hb1]; have := hcell1 k xs[k] (List.getElem?_eq_getElem hlt) 3 _ rfl; simpa using this
      clear hcell1 h1
      go_wp2_with fail
      refine (toStay_any _ _ _ _ _).mono ?_; rintro e w2 ⟨rfl, hb2⟩
      have HF2 := HF.below hb2
      have hz2 := HF2.lt.2
      have hb3 := bnext hb hb2 (Nat.le_refl _)
      clear e0 e1 e2 e3 HF hb hb2
      have hkb : k * 4 + 4 ≤ xs.length * 4 := by have := Nat.mul_le_mul_right 4 hlt; rw [Nat.succ_mul] at this; exact this
      obtain ⟨⟨u0, f0⟩, g0⟩ := HF2.cell (j := k * 4) (by omega)
      obtain ⟨⟨u1, f1⟩, g1⟩ := HF2.cell (j := k * 4 + 1) (by omega)
      obtain ⟨⟨u2, f2⟩, g2⟩ := HF2.cell (j := k * 4 + 2) (by omega)
      obtain ⟨⟨u3, f3⟩, g3⟩ := HF2.cell (j := k * 4 + 3) (by omega)
      go_wp2
      go_roundw
      case rel =>
        refine ⟨k + 1, by omega, by go_num, ?_, below_storeRow (Nat.le_refl _) [.int .i64 (xs[k]).ship, .int .i64 (xs[k]).berth, .int .i64 (xs[k]).start, .int .i64 (xs[k]).fin] _ (k * 4) hb3⟩
        have := HF2.next StayD.enc_len (by simp; omega) xs[k]
        rw [List.take_succ_eq_append_getElem hlt]
        simpa [storeRow, StayD.enc, Nat.min_eq_left hk] using this
      case measure => simp [intOf]; omega
    · obtain rfl : k = xs.length := by omega
      go_wp2
      go_ret
      exact ⟨rfl, by have := HF.own (by simp); simpa using this, hb⟩
theorem toStayS_any (v1 : Value) (xs : List StayD) (w : World) (h1 : RdStay w v1 xs) (hn : xs.length ≤ 1048576) :
    Calls Try.prog 21 #[v1] w fun e w' => ∃ v, e = .returned v ∧ Own w' w.heap.size 97 4 StayD.enc v xs ∧ Below w.heap.size w w' :=
  (toStayS_at v1 xs w h1 hn).mono fun _ _ ⟨he, ho, hb⟩ => ⟨_, he, ho, hb⟩
theorem eqStay_split (x0 : Int) (x1 : Int) (x2 : Int) (x3 : Int) (y0 : Int) (y1 : Int) (y2 : Int) (y3 : Int) (P : Bool → Prop)
    (h0 : x0 ≠ y0 → P false)
    (h1 : x0 = y0 → x1 ≠ y1 → P false)
    (h2 : x0 = y0 → x1 = y1 → x2 ≠ y2 → P false)
    (h3 : x0 = y0 → x1 = y1 → x2 = y2 → x3 ≠ y3 → P false)
    (h : x0 = y0 → x1 = y1 → x2 = y2 → x3 = y3 → P true) : P (StayD.eqB ⟨x0, x1, x2, x3⟩ ⟨y0, y1, y2, y3⟩) := by
  unfold StayD.eqB
  by_cases e0 : x0 = y0
  case neg =>
    have : ¬ (⟨x0, x1, x2, x3⟩ : StayD) = ⟨y0, y1, y2, y3⟩ := by intro h; injection h; contradiction
    simp only [this, decide_false]; exact h0  e0
  by_cases e1 : x1 = y1
  case neg =>
    have : ¬ (⟨x0, x1, x2, x3⟩ : StayD) = ⟨y0, y1, y2, y3⟩ := by intro h; injection h; contradiction
    simp only [this, decide_false]; exact h1 e0 e1
  by_cases e2 : x2 = y2
  case neg =>
    have : ¬ (⟨x0, x1, x2, x3⟩ : StayD) = ⟨y0, y1, y2, y3⟩ := by intro h; injection h; contradiction
    simp only [this, decide_false]; exact h2 e0 e1 e2
  by_cases e3 : x3 = y3
  case neg =>
    have : ¬ (⟨x0, x1, x2, x3⟩ : StayD) = ⟨y0, y1, y2, y3⟩ := by intro h; injection h; contradiction
    simp only [this, decide_false]; exact h3 e0 e1 e2 e3
  subst e0 e1 e2 e3
  simp only [decide_true]; exact h rfl rfl rfl rfl
set_option maxHeartbeats 2000000 in
theorem eqStay_any (x0 : Int) (x1 : Int) (x2 : Int) (x3 : Int) (y0 : Int) (y1 : Int) (y2 : Int) (y3 : Int) (w : World) :
    Calls Try.prog 61 #[.agg #[.int .i64 x0, .int .i64 x1, .int .i64 x2, .int .i64 x3], .agg #[.int .i64 y0, .int .i64 y1, .int .i64 y2, .int .i64 y3]] w fun e w' => e = .returned (.bool (StayD.eqB ⟨x0, x1, x2, x3⟩ ⟨y0, y1, y2, y3⟩)) ∧ Below w.heap.size w w' := by
  refine eqStay_split x0 x1 x2 x3 y0 y1 y2 y3 (fun r => Calls Try.prog 61 #[.agg #[.int .i64 x0, .int .i64 x1, .int .i64 x2, .int .i64 x3], .agg #[.int .i64 y0, .int .i64 y1, .int .i64 y2, .int .i64 y3]] w fun e w' => e = .returned (.bool r) ∧ Below w.heap.size w w') ?_ ?_ ?_ ?_ ?_
  · intro e0
    have q0 : (x0 != y0) = true := by simpa using e0
    clear e0
    go_enter Try.func61, Try.ntmps61
    go_wp2_with fail
    go_ret
    exact ⟨rfl, (by repeat (first | exact Below.refl _ _ | assumption | refine Below.setCell ?_ (by first | omega | (simp <;> omega)) _ | refine Below.alloc ?_ (by first | omega | (simp <;> omega)) _ | refine below_drewN ?_ _ | refine Below.drew ?_ | refine Below.trans ?_ (Below.mono (by assumption) (by first | omega | (simp <;> omega)))))⟩
  · intro e0 e1
    subst e0
    have q1 : (x1 != y1) = true := by simpa using e1
    clear e1
    go_enter Try.func61, Try.ntmps61
    go_wp2_with fail
    go_ret
    exact ⟨rfl, (by repeat (first | exact Below.refl _ _ | assumption | refine Below.setCell ?_ (by first | omega | (simp <;> omega)) _ | refine Below.alloc ?_ (by first | omega | (simp <;> omega)) _ | refine below_drewN ?_ _ | refine Below.drew ?_ | refine Below.trans ?_ (Below.mono (by assumption) (by first | omega | (simp <;> omega)))))⟩
  · intro e0 e1 e2
    subst e0
    subst e1
    have q2 : (x2 != y2) = true := by simpa using e2
    clear e2
    go_enter Try.func61, Try.ntmps61
    go_wp2_with fail
    go_ret
    exact ⟨rfl, (by repeat (first | exact Below.refl _ _ | assumption | refine Below.setCell ?_ (by first | omega | (simp <;> omega)) _ | refine Below.alloc ?_ (by first | omega | (simp <;> omega)) _ | refine below_drewN ?_ _ | refine Below.drew ?_ | refine Below.trans ?_ (Below.mono (by assumption) (by first | omega | (simp <;> omega)))))⟩
  · intro e0 e1 e2 e3
    subst e0
    subst e1
    subst e2
    have q3 : (x3 != y3) = true := by simpa using e3
    clear e3
    go_enter Try.func61, Try.ntmps61
    go_wp2_with fail
    go_ret
    exact ⟨rfl, (by repeat (first | exact Below.refl _ _ | assumption | refine Below.setCell ?_ (by first | omega | (simp <;> omega)) _ | refine Below.alloc ?_ (by first | omega | (simp <;> omega)) _ | refine below_drewN ?_ _ | refine Below.drew ?_ | refine Below.trans ?_ (Below.mono (by assumption) (by first | omega | (simp <;> omega)))))⟩
  · intro e0 e1 e2 e3
    subst e0
    subst e1
    subst e2
    subst e3
    go_enter Try.func61, Try.ntmps61
    go_wp2_with fail
    go_ret
    exact ⟨rfl, (by repeat (first | exact Below.refl _ _ | assumption | refine Below.setCell ?_ (by first | omega | (simp <;> omega)) _ | refine Below.alloc ?_ (by first | omega | (simp <;> omega)) _ | refine below_drewN ?_ _ | refine Below.drew ?_ | refine Below.trans ?_ (Below.mono (by assumption) (by first | omega | (simp <;> omega)))))⟩
set_option maxHeartbeats 2000000 in
theorem eqStayS_any (v1 v2 : Value) (xs ys : List StayD) (w : World) (h1 : RdStay w v1 xs) (h2 : RdStay w v2 ys) :
    Calls Try.prog 23 #[v1, v2] w fun e w' => e = .returned (.bool (decide (xs = ys))) ∧ Below w.heap.size w w' := by
  obtain ⟨A1, c1, rfl, hc1, hm1, h1⟩ := h1
  obtain ⟨A2, c2, rfl, hc2, hm2, h2⟩ := h2
  unfold maxLen at hm1 hm2
  by_cases hl : xs.length = ys.length
  · have hlt : ((xs.length : Int) != (ys.length : Int)) = false := by simp [hl]
    have HL := hide hl
    clear hl
    go_enter Try.func23, Try.ntmps23
    go_wp2
    go_loopw [5] (fun i wr => ∃ k : Nat, k ≤ xs.length ∧ i = .int .i64 k ∧ Hid (xs.take k = ys.take k) ∧ Below w.heap.size w wr) (fun i _ => xs.length - (intOf i).toNat)
    case atStart => exact ⟨0, Nat.zero_le _, rfl, hide rfl, Below.refl _ _⟩
    case round =>
      obtain ⟨k, hk, rfl, HT, hb⟩ := hrel
      by_cases hlt : k < xs.length
      · obtain ⟨b1, o1, rfl, hb1, hcell1⟩ := h1 (by omega)
        obtain ⟨b2, o2, rfl, hb2, hcell2⟩ := h2 (by have := HL.out; omega)
        have hk2 : k < ys.length := by have := HL.out; omega
        have e0 : wr.cell? ⟨b1, o1 + k * 4, none⟩ = some (.int .i64 (xs[k]).ship) := by
          rw [hb.cell (p := ⟨b1, _, none⟩) hb1]; have := hcell1 k xs[k] (List.getElem?_eq_getElem hlt) 0 _ rfl; simpa using this
        have e1 : wr.cell? ⟨b1, o1 + k * 4 + 1, none⟩ = some (.int .i64 (xs[k]).berth) := by
          rw [hb.cell (p := ⟨b1, _, none⟩) hb1]; have := hcell1 k xs[k] (List.getElem?_eq_getElem hlt) 1 _ rfl; simpa using this
        have e2 : wr.cell? ⟨b1, o1 + k * 4 + 2, none⟩ = some (.int .i64 (xs[k]).start) := by
          rw [hb.cell (p := ⟨b1, _, none⟩) hb1]; have := hcell1 k xs[k] (List.getElem?_eq_getElem hlt) 2 _ rfl; simpa using this
        have e3 : wr.cell? ⟨b1, o1 + k * 4 + 3, none⟩ = some (.int .i64 (xs[k]).fin) := by
          rw [hb.cell (p := ⟨b1, _, none⟩) hb1]; have := hcell1 k xs[k] (List.getElem?_eq_getElem hlt) 3 _ rfl; simpa using this
        have f0 : wr.cell? ⟨b2, o2 + k * 4, none⟩ = some (.int .i64 (ys[k]).ship) := by
          rw [hb.cell (p := ⟨b2, _, none⟩) hb2]; have := hcell2 k ys[k] (List.getElem?_eq_getElem hk2) 0 _ rfl; simpa using this
        have f1 : wr.cell? ⟨b2, o2 + k * 4 + 1, none⟩ = some (.int .i64 (ys[k]).berth) := by
          rw [hb.cell (p := ⟨b2, _, none⟩) hb2]; have := hcell2 k ys[k] (List.getElem?_eq_getElem hk2) 1 _ rfl; simpa using this
        have f2 : wr.cell? ⟨b2, o2 + k * 4 + 2, none⟩ = some (.int .i64 (ys[k]).start) := by
          rw [hb.cell (p := ⟨b2, _, none⟩) hb2]; have := hcell2 k ys[k] (List.getElem?_eq_getElem hk2) 2 _ rfl; simpa using this
        have f3 : wr.cell? ⟨b2, o2 + k * 4 + 3, none⟩ = some (.int .i64 (ys[k]).fin) := by
          rw [hb.cell (p := ⟨b2, _, none⟩) hb2]; have := hcell2 k ys[k] (List.getElem?_eq_getElem hk2) 3 _ rfl; simpa using this
        have hz1 : b1 < wr.heap.size := Nat.lt_of_lt_of_le hb1 hb.size
        have hz2 : b2 < wr.heap.size := Nat.lt_of_lt_of_le hb2 hb.size
        have hk2' : (k : Int) < (ys.length : Int) := by omega
        clear hcell1 hcell2 h1 h2
        by_cases he : xs[k] = ys[k]
        · have HE := hide he
          have he' : StayD.eqB xs[k] ys[k] = true := by simpa [StayD.eqB] using he
          clear he
          go_wp2_with fail
          refine wp_region_below (Below.refl wr.heap.size _) (by kernel_rfl) (by kernel_rfl) ?_
          repeat (first
            | go_big_quiet_skip
            | (go_big_quiet_want
               first
                | (refine quiet_value ?_; apply Exists.intro
                   refine ⟨fun wq hq => ?_, ?_⟩
                   · (obtain ⟨hc, hf⟩ := bcell hq; go_simp; first | done | rfl)
                   go_big_quiet_on
                   simp only [Act.put, List.setIfInBounds_toArray, List.set_cons_zero, List.set_cons_succ])
                | (refine quiet_call ?_; apply Exists.intro; apply Exists.intro; apply Exists.intro
                   refine ⟨fun wq hq => ?_, fun wq hq => ?_, ?_⟩
                   · (obtain ⟨hc, hf⟩ := bcell hq; go_simp; exact ⟨rfl, rfl⟩)
                   · (first | with_reducible exact (eqStay_any _ _ _ _ _ _ _ _ _).mono fun e w'' ⟨he, hw⟩ => ⟨he, hw ▸ hq⟩ | with_reducible exact (eqStay_any _ _ _ _ _ _ _ _ _).mono fun e w'' ⟨he, hb'⟩ => ⟨he, bnext hq hb'⟩ |  exact (eqStay_any _ _ _ _ _ _ _ _ _).mono fun e w'' ⟨he, hb'⟩ => ⟨he, bnext hq hb'⟩ |  exact (eqStay_any _ _ _ _ _ _ _ _ _).mono fun e w'' ⟨he, hw⟩ => ⟨he, hw ▸ hq⟩)
                   go_big_quiet_on
                   simp only [Act.put, List.setIfInBounds_toArray, List.set_cons_zero, List.set_cons_succ])
                | (go_big_quiet_op; go_big_quiet_on)
               ))
          refine wpQuiet_nil (fun w1 hb' => ?_)
          obtain ⟨hc, hf⟩ := bcell hb'
          have hz := hb'.size; (try simp at hz)
          go_wp2
          go_roundw
          case rel => exact ⟨k + 1, by omega, by go_num, hide (take_succ_eq HT.out hlt hk2 HE.out), bnext hb hb' (Nat.le_refl _)⟩
          case measure => simp [intOf]; omega
        · have HE := hide he
          have he' : StayD.eqB xs[k] ys[k] = false := by simpa [StayD.eqB] using he
          clear he
          go_wp2_with fail
          refine wp_region_below (Below.refl wr.heap.size _) (by kernel_rfl) (by kernel_rfl) ?_
          repeat (first
            | go_big_quiet_skip
            | (go_big_quiet_want
               first
                | (refine quiet_value ?_; apply Exists.intro
                   refine ⟨fun wq hq => ?_, ?_⟩
                   · (obtain ⟨hc, hf⟩ := bcell hq; go_simp; first | done | rfl)
                   go_big_quiet_on
                   simp only [Act.put, List.setIfInBounds_toArray, List.set_cons_zero, List.set_cons_succ])
                | (refine quiet_call ?_; apply Exists.intro; apply Exists.intro; apply Exists.intro
                   refine ⟨fun wq hq => ?_, fun wq hq => ?_, ?_⟩
                   · (obtain ⟨hc, hf⟩ := bcell hq; go_simp; exact ⟨rfl, rfl⟩)
                   · (first | with_reducible exact (eqStay_any _ _ _ _ _ _ _ _ _).mono fun e w'' ⟨he, hw⟩ => ⟨he, hw ▸ hq⟩ | with_reducible exact (eqStay_any _ _ _ _ _ _ _ _ _).mono fun e w'' ⟨he, hb'⟩ => ⟨he, bnext hq hb'⟩ |  exact (eqStay_any _ _ _ _ _ _ _ _ _).mono fun e w'' ⟨he, hb'⟩ => ⟨he, bnext hq hb'⟩ |  exact (eqStay_any _ _ _ _ _ _ _ _ _).mono fun e w'' ⟨he, hw⟩ => ⟨he, hw ▸ hq⟩)
                   go_big_quiet_on
                   simp only [Act.put, List.setIfInBounds_toArray, List.set_cons_zero, List.set_cons_succ])
                | (go_big_quiet_op; go_big_quiet_on)
               ))
          refine wpQuiet_nil (fun w1 hb' => ?_)
          obtain ⟨hc, hf⟩ := bcell hb'
          have hz := hb'.size; (try simp at hz)
          go_wp2
          go_ret
          refine ⟨?_, bnext hb hb' (Nat.le_refl _)⟩
          have : xs ≠ ys := fun e => HE.out (by subst e; rfl)
          simp [this]
      · obtain rfl : k = xs.length := by omega
        go_wp2
        go_ret
        refine ⟨?_, hb⟩
        have h := HT.out
        rw [List.take_length, HL.out, List.take_length] at h
        simp [h]
  · have hlt : ((xs.length : Int) != (ys.length : Int)) = true := by simp; omega
    have HL := hide hl
    clear hl
    go_enter Try.func23, Try.ntmps23
    go_wp2
    go_ret
    have : xs ≠ ys := fun e => HL.out (by rw [e])
    exact ⟨by simp [this], (by repeat (first | exact Below.refl _ _ | assumption | refine Below.setCell ?_ (by first | omega | (simp <;> omega)) _ | refine Below.alloc ?_ (by first | omega | (simp <;> omega)) _ | refine below_drewN ?_ _ | refine Below.drew ?_ | refine Below.trans ?_ (Below.mono (by assumption) (by first | omega | (simp <;> omega)))))⟩
set_option maxHeartbeats 1000000 in
theorem szStayS_any (v1 : Value) (xs : List StayD) (left : Int) (w : World) (h1 : RdStay w v1 xs) (hl0 : 0 ≤ left) (hl1 : left ≤ 1048576) :
    Calls Try.prog 19 #[v1, .int .i64 left] w fun e w' => ∃ r : Int, e = .returned (.int .i64 r) ∧ (0 ≤ r → r ≤ left ∧ (xs.length : Int) ≤ left) ∧ r ≤ 1048576 ∧ Below w.heap.size w w' := by
  obtain ⟨A1, c1, rfl, hc1, hm1, h1⟩ := h1
  unfold maxLen at hm1
  clear h1
  by_cases hl : left < (xs.length : Int)
  · go_enter Try.func19, Try.ntmps19
    go_wp2
    go_ret
    exact ⟨-1, rfl, by omega, by omega, Below.refl _ _⟩
  · go_enter Try.func19, Try.ntmps19
    go_wp2
    go_ret
    exact ⟨left - (xs.length : Int), rfl, by omega, by omega, Below.refl _ _⟩
def StayD.mk' (k : Int) : StayD := ⟨(k), (k + 1), (k + 1 + 1), (k + 1 + 1 + 1)⟩
set_option maxHeartbeats 4000000 in
theorem markStayS_any (v : Value) (xs : List StayD) (k : Int) (base : Nat) (w : World) (h1 : Own w base 97 4 StayD.enc v xs) (hk0 : 1 ≤ k) (hk1 : k ≤ 1099511627776) (hn : xs.length ≤ 1073741824) :
    Calls Try.prog 47 #[v, .int .i64 k] w fun e w' => e = .returned (.int .i64 (k + xs.length * 4)) ∧ Own w' base 97 4 StayD.enc v (marks StayD.mk' 4 k xs.length) ∧ w.grownBy w' v.ownBlock := by
  rcases h1.cases with ⟨rfl, rfl⟩ | ⟨g, cap, rfl, hg, hgs, hnc, hm⟩
  · go_enter Try.func47, Try.ntmps47
    go_wp2
    go_loop [1, 5] (fun kv i => kv = .int .i64 k ∧ i = .int .i64 0) (fun _ _ => 0)
    case atStart => exact ⟨rfl, rfl⟩
    case round =>
      obtain ⟨rfl, rfl⟩ := hrel
      go_wp2
      go_ret
      exact ⟨by simp, by simpa [marks] using h1, World.grownBy.refl _ _⟩
  · unfold maxLen at hm
    go_enter Try.func47, Try.ntmps47
    go_wp2
    go_loopw [1, 5] (fun kv i wr => ∃ (j : Nat) (q : Int), j ≤ xs.length ∧ i = .int .i64 j ∧ kv = .int .i64 q ∧ Hid (q = k + (j : Int) * (4 : Nat)) ∧ 1 ≤ q ∧ q ≤ 2199023255552 ∧ Own wr base 97 4 StayD.enc (.slice (some ⟨g, 0, none⟩) xs.length cap) (marks StayD.mk' 4 k j ++ xs.drop j) ∧ w.grownBy wr (some g)) (fun _ i _ => xs.length - (intOf i).toNat)
    case atStart => exact ⟨0, k, Nat.zero_le _, rfl, rfl, hide (by simp), by omega, by omega, by simpa [marks] using h1, World.grownBy.refl _ _⟩
    case round =>
      obtain ⟨j, q, hj, rfl, rfl, HQ, q0, q1, HO, hgr⟩ := hrel
      by_cases hlt : j < xs.length
      · have hml := marks_mid_length StayD.mk' 4 k xs j hj
        have HM := hide hml
        have hj' : j < (marks StayD.mk' 4 k j ++ xs.drop j).length := by omega
        have hq2 : q + 4 ≤ 2199023255552 := by have := HQ.out; omega
        obtain ⟨e0, f0⟩ := Own.cells (i := j) (j := 0) StayD.enc_len (by rw [hml]; exact HO) hj' rfl
        obtain ⟨e1, f1⟩ := Own.cells (i := j) (j := 1) StayD.enc_len (by rw [hml]; exact HO) hj' rfl
        obtain ⟨e2, f2⟩ := Own.cells (i := j) (j := 2) StayD.enc_len (by rw [hml]; exact HO) hj' rfl
        obtain ⟨e3, f3⟩ := Own.cells (i := j) (j := 3) StayD.enc_len (by rw [hml]; exact HO) hj' rfl
        simp only [Nat.add_zero] at e0 f0
        have hzz : g < wr.heap.size := Nat.lt_of_lt_of_le hgs hgr.size
        clear hml
        go_wp2
        go_roundw
        case rel =>
          refine ⟨j + 1, q + 4, by omega, by go_num, by go_num, hide (by have := HQ.out; omega), by omega, by omega, ?_, ?_⟩
          · have := Own.setRow (i := j) StayD.enc_len (by rw [HM.out]; exact HO) hj' (StayD.mk' q)
            rw [HM.out] at this
            have e := marks_step StayD.mk' 4 k xs j hlt
            rw [← HQ.out] at e
            rw [e] at this
            simpa [storeRow, StayD.enc, StayD.mk', Nat.add_assoc] using this
          · have := grownBy_storeRow (g := g) (StayD.mk' q).enc _ (j * 4) hgr
            simpa [storeRow, StayD.enc, StayD.mk', Nat.add_assoc] using this
        case measure => simp [intOf]; omega
      · obtain rfl : j = xs.length := by omega
        go_wp2
        go_ret
        exact ⟨by have := HQ.out; simp at this; simp [this], by simpa using HO, hgr⟩
set_option maxHeartbeats 4000000 in
theorem heldStayS_any (v : Value) (k : Int) (n : Nat) (w : World) (h1 : RdStay w v (marks StayD.mk' 4 k n)) (hk0 : 1 ≤ k) (hk1 : k ≤ 1099511627776) (hn : n ≤ 1073741824) :
    Calls Try.prog 53 #[v, .int .i64 k] w fun e w' => e = .returned (.int .i64 (k + n * 4)) ∧ Below w.heap.size w w' := by
  obtain ⟨A1, c1, rfl, hc1, hm1, h1⟩ := h1
  rw [marks_length] at *
  unfold maxLen at hm1
  go_enter Try.func53, Try.ntmps53
  go_wp2
  go_loop [1, 5] (fun kv i => ∃ (j : Nat) (q : Int), j ≤ n ∧ i = .int .i64 j ∧ kv = .int .i64 q ∧ Hid (q = k + (j : Int) * (4 : Nat)) ∧ 1 ≤ q ∧ q ≤ 2199023255552) (fun _ i => n - (intOf i).toNat)
  case atStart => exact ⟨0, k, Nat.zero_le _, rfl, rfl, hide (by simp), by omega, by omega⟩
  case round =>
    obtain ⟨j, q, hj, rfl, rfl, HQ, q0, q1⟩ := hrel
    by_cases hlt : j < n
    · obtain ⟨b1, o1, rfl, hb1, hcell1⟩ := h1 (by omega)
      have hq2 : q + 4 ≤ 2199023255552 := by have := HQ.out; omega
      have e0 : w.cell? ⟨b1, o1 + j * 4, none⟩ = some (.int .i64 q) := by have := hcell1 j _ (marks_get StayD.mk' 4 k n j hlt) 0 _ rfl; rw [← HQ.out] at this; simpa [StayD.mk'] using this
      have e1 : w.cell? ⟨b1, o1 + j * 4 + 1, none⟩ = some (.int .i64 (q + 1)) := by have := hcell1 j _ (marks_get StayD.mk' 4 k n j hlt) 1 _ rfl; rw [← HQ.out] at this; simpa [StayD.mk'] using this
      have e2 : w.cell? ⟨b1, o1 + j * 4 + 2, none⟩ = some (.int .i64 (q + 1 + 1)) := by have := hcell1 j _ (marks_get StayD.mk' 4 k n j hlt) 2 _ rfl; rw [← HQ.out] at this; simpa [StayD.mk'] using this
      have e3 : w.cell? ⟨b1, o1 + j * 4 + 3, none⟩ = some (.int .i64 (q + 1 + 1 + 1)) := by have := hcell1 j _ (marks_get StayD.mk' 4 k n j hlt) 3 _ rfl; rw [← HQ.out] at this; simpa [StayD.mk'] using this
      clear hcell1 h1
      go_wp2
      go_round
      case rel => exact ⟨j + 1, q + 4, by omega, by go_num, by go_num, hide (by have := HQ.out; omega), by omega, by omega⟩
      case measure => simp [intOf]; omega
    · obtain rfl : j = n := by omega
      go_wp2
      go_ret
      exact ⟨by have := HQ.out; simp at this; simp [this], Below.refl _ _⟩
end Go.Proofs.Ytjfppjhlkeopnaa

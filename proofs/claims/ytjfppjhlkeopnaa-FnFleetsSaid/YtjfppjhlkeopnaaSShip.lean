/- Ships as the laws' helpers handle them: conversion, comparison, marks. No condition. -/
import Derived.Test.YtjfppjhlkeopnaaFix
import Derived.Test.YtjfppjhlkeopnaaText
namespace Go.Proofs.Ytjfppjhlkeopnaa
open Go.RowKit
set_option linter.unusedVariables false

structure ShipD where
  name : ByteArray
  length : Int
  draught : Int
  line : Int
  tugs : Int
  slow : Bool

theorem ShipD.ext_iff' (x y : ShipD) : (x.name = y.name ∧ x.length = y.length ∧ x.draught = y.draught ∧ x.line = y.line ∧ x.tugs = y.tugs ∧ x.slow = y.slow) ↔ x = y := by
  cases x; cases y; simp
instance : DecidableEq ShipD := fun x y => decidable_of_iff _ (ShipD.ext_iff' x y)
def ShipD.eqB (x y : ShipD) : Bool := decide (x = y)
instance : Inhabited ShipD := ⟨⟨ByteArray.empty, 0, 0, 0, 0, false⟩⟩
def ShipD.enc (x : ShipD) : List Value := [.string x.name, .int .i64 x.length, .int .i64 x.draught, .int .i64 x.line, .int .i64 x.tugs, .bool x.slow]
theorem ShipD.enc_len (x : ShipD) : x.enc.length = 6 := rfl
abbrev ShipD.val (x : ShipD) : Value := .agg #[.string x.name, .int .i64 x.length, .int .i64 x.draught, .int .i64 x.line, .int .i64 x.tugs, .bool x.slow]
/-- its numbers are int64s, its texts have a length that an int holds -/
def ShipD.ok (x : ShipD) : Prop := (Lit.int .i64 x.length).wf = true ∧ (Lit.int .i64 x.draught).wf = true ∧ (Lit.int .i64 x.line).wf = true ∧ (Lit.int .i64 x.tugs).wf = true ∧ x.name.size ≤ maxLen
theorem ShipD.ok_size {x : ShipD} (h : x.ok) : x.name.size ≤ maxLen := h.2.2.2.2
abbrev RdShip (w : World) (v : Value) (xs : List ShipD) : Prop := Rd w 6 ShipD.enc v xs
theorem ship_info : (Try.prog.info? 31).map (fun i => (i.zero, i.size, i.bytes)) = some (some (.agg #[.string ByteArray.empty, .int .i64 0, .int .i64 0, .int .i64 0, .int .i64 0, .bool false]), 6, 56) := by kernel_rfl
section
open Go.ChangeShapes Go.WideShapes Go.Deep
set_option maxRecDepth 100000 in
theorem rowShip {H : Type} {enc : TypeId × Value → H} {W : World} {fs : Array Field} (hs : Try.prog.underlying 25 = some (.struct fs)) : ∀ us : List Value, us.length = fs.size → (∀ (j : Nat) (f : Field), fs[j]? = some f → ∃ (u : Value) (y : DataW H × List MemPlace) (n : Nat), us[j]? = some u ∧ DataW.trod enc Try.prog W 0 (fun _ => true) true n f.type [u] = some y) → ∃ x : ShipD, x.enc = us ∧ x.ok := by
  rw [Try.underlying25] at hs
  have hs := Option.some.inj hs
  injection hs with hs
  subst hs
  intro us hl hf
  obtain ⟨c0, c1, c2, c3, c4, c5, rfl⟩ := list6 hl
  obtain ⟨u0, y0, m0, g0, hy0⟩ := hf 0 _ rfl
  have g0 := Option.some.inj g0; subst g0
  obtain ⟨a0, e0, -, w0⟩ := DataW.trod_string Try.underlying9 hy0
  simp only [List.cons.injEq, and_true] at e0; subst e0
  obtain ⟨u1, y1, m1, g1, hy1⟩ := hf 1 _ rfl
  have g1 := Option.some.inj g1; subst g1
  obtain ⟨a1, e1, -, w1⟩ := DataW.trod_int Try.underlying3 hy1
  simp only [List.cons.injEq, and_true] at e1; subst e1
  obtain ⟨u2, y2, m2, g2, hy2⟩ := hf 2 _ rfl
  have g2 := Option.some.inj g2; subst g2
  obtain ⟨a2, e2, -, w2⟩ := DataW.trod_int Try.underlying3 hy2
  simp only [List.cons.injEq, and_true] at e2; subst e2
  obtain ⟨u3, y3, m3, g3, hy3⟩ := hf 3 _ rfl
  have g3 := Option.some.inj g3; subst g3
  obtain ⟨a3, e3, -, w3⟩ := DataW.trod_int Try.underlying3 hy3
  simp only [List.cons.injEq, and_true] at e3; subst e3
  obtain ⟨u4, y4, m4, g4, hy4⟩ := hf 4 _ rfl
  have g4 := Option.some.inj g4; subst g4
  obtain ⟨a4, e4, -, w4⟩ := DataW.trod_int Try.underlying3 hy4
  simp only [List.cons.injEq, and_true] at e4; subst e4
  obtain ⟨u5, y5, m5, g5, hy5⟩ := hf 5 _ rfl
  have g5 := Option.some.inj g5; subst g5
  obtain ⟨a5, e5, -⟩ := DataW.trod_bool Try.underlying4 hy5
  simp only [List.cons.injEq, and_true] at e5; subst e5
  exact ⟨⟨a0, a1, a2, a3, a4, a5⟩, rfl, ⟨w1, w2, w3, w4, w0⟩⟩
set_option maxRecDepth 100000 in
theorem openShipS {H : Type} {enc : TypeId × Value → H} {W : World} {r : Reach} {b0 : Nat} {v : Value} {d : DataW H} {p : List MemPlace} (hv : Value.okWide Try.prog W r b0 77 v)
    (h : DataW.Trod enc Try.prog W 0 (fun _ => true) true 77 v d p) : ∃ xs : List ShipD, RdShip W v xs ∧ ∀ x ∈ xs, x.ok := open_rows Try.underlying77 Try.underlying25 (by kernel_rfl) (by kernel_rfl) (by decide) hv h (rowShip Try.underlying25)
set_option maxRecDepth 100000 in
theorem openShipT {H : Type} {enc : TypeId × Value → H} {W : World} {v : Value} {y : DataW H × List MemPlace} {fuel : Nat} (h : DataW.trod enc Try.prog W 0 (fun _ => true) true fuel 77 [v] = some y) : ∃ xs : List ShipD, RdShip W v xs ∧ ∀ x ∈ xs, x.ok :=
  open_rowsT Try.underlying77 Try.underlying25 (by kernel_rfl) (by kernel_rfl) (by decide) h (rowShip Try.underlying25)
end
section
open Go.ChangeShapes Go.WideShapes Go.Deep
set_option maxRecDepth 100000 in
theorem openShip {H : Type} {enc : TypeId × Value → H} {W : World} {r : Reach} {b0 : Nat} {v : Value} {d : DataW H} {p : List MemPlace} (hv : Value.okWide Try.prog W r b0 25 v)
    (h : DataW.Trod enc Try.prog W 0 (fun _ => true) true 25 v d p) : ∃ x : ShipD, v = x.val ∧ x.ok := by
  obtain ⟨cs, rfl, hl, hf⟩ := open_struct Try.underlying25 (by kernel_rfl) (by kernel_rfl) hv h
  obtain ⟨c0, c1, c2, c3, c4, c5, rfl⟩ := list6 hl
  obtain ⟨u0, y0, m0, g0, hy0⟩ := hf 0 _ rfl
  have g0 := Option.some.inj g0; subst g0
  obtain ⟨a0, e0, -, w0⟩ := DataW.trod_string Try.underlying9 hy0
  simp only [List.cons.injEq, and_true] at e0; subst e0
  obtain ⟨u1, y1, m1, g1, hy1⟩ := hf 1 _ rfl
  have g1 := Option.some.inj g1; subst g1
  obtain ⟨a1, e1, -, w1⟩ := DataW.trod_int Try.underlying3 hy1
  simp only [List.cons.injEq, and_true] at e1; subst e1
  obtain ⟨u2, y2, m2, g2, hy2⟩ := hf 2 _ rfl
  have g2 := Option.some.inj g2; subst g2
  obtain ⟨a2, e2, -, w2⟩ := DataW.trod_int Try.underlying3 hy2
  simp only [List.cons.injEq, and_true] at e2; subst e2
  obtain ⟨u3, y3, m3, g3, hy3⟩ := hf 3 _ rfl
  have g3 := Option.some.inj g3; subst g3
  obtain ⟨a3, e3, -, w3⟩ := DataW.trod_int Try.underlying3 hy3
  simp only [List.cons.injEq, and_true] at e3; subst e3
  obtain ⟨u4, y4, m4, g4, hy4⟩ := hf 4 _ rfl
  have g4 := Option.some.inj g4; subst g4
  obtain ⟨a4, e4, -, w4⟩ := DataW.trod_int Try.underlying3 hy4
  simp only [List.cons.injEq, and_true] at e4; subst e4
  obtain ⟨u5, y5, m5, g5, hy5⟩ := hf 5 _ rfl
  have g5 := Option.some.inj g5; subst g5
  obtain ⟨a5, e5, -⟩ := DataW.trod_bool Try.underlying4 hy5
  simp only [List.cons.injEq, and_true] at e5; subst e5
  exact ⟨⟨a0, a1, a2, a3, a4, a5⟩, rfl, ⟨w1, w2, w3, w4, w0⟩⟩
end
set_option maxHeartbeats 1000000 in
theorem toShip_any (x0 : ByteArray) (x1 : Int) (x2 : Int) (x3 : Int) (x4 : Int) (x5 : Bool) (w : World) :
    Calls Try.prog 17 #[.agg #[.string x0, .int .i64 x1, .int .i64 x2, .int .i64 x3, .int .i64 x4, .bool x5]] w fun e w' => e = .returned (.agg #[.string x0, .int .i64 x1, .int .i64 x2, .int .i64 x3, .int .i64 x4, .bool x5]) ∧ Below w.heap.size w w' := by
  go_enter Try.func17, Try.ntmps17
  go_wp2_with fail
  exact bodyPost_ret (v := .agg #[.string x0, .int .i64 x1, .int .i64 x2, .int .i64 x3, .int .i64 x4, .bool x5]) (by simp [results, Try.results17, go_sem]) rfl ⟨rfl, (by repeat (first | exact Below.refl _ _ | assumption | refine Below.setCell ?_ (by first | omega | (simp <;> omega)) _ | refine Below.alloc ?_ (by first | omega | (simp <;> omega)) _ | refine below_drewN ?_ _ | refine Below.drew ?_ | refine Below.trans ?_ (Below.mono (by assumption) (by first | omega | (simp <;> omega)))))⟩
set_option maxHeartbeats 2000000 in
theorem toShipS_at (v1 : Value) (xs : List ShipD) (w : World) (h1 : RdShip w v1 xs) (hn : xs.length ≤ 1048576) :
    Calls Try.prog 38 #[v1] w fun e w' => e = .returned (.slice (some ⟨w.heap.size, 0, none⟩) xs.length xs.length) ∧ Own w' w.heap.size 31 6 ShipD.enc (.slice (some ⟨w.heap.size, 0, none⟩) xs.length xs.length) xs ∧ Below w.heap.size w w' := by
  obtain ⟨A1, c1, rfl, hc1, hm1, h1⟩ := h1
  unfold maxLen at hm1
  obtain ⟨i0, hi0, hz0, hz1, hz2⟩ := info_parts ship_info
  go_enter Try.func38, Try.ntmps38
  go_wp2_with (refine wpList_make_full _ rfl (.tmp 6) (.tmp 6) _ rfl w.heap.size 31 i0 _ 6 Try.underlying61 hi0 hz0 hz1 _ _ _ _ xs.length rfl rfl rfl rfl (by rw [hz2]; omega) (by unfold maxLen; omega) (Nat.le_refl _) ?_; intro w1 hown hg)
  have hb : Below w.heap.size w w1 := (Below.refl _ _).grown hg (Nat.le_refl _) (by simp)
  have HF : Filled w1 w.heap.size 31 6 ShipD.enc w.heap.size xs.length ([] : List ShipD) := Filled.start hown
  clear hown hg
  go_loopw [4] (fun i wr => ∃ k : Nat, k ≤ xs.length ∧ i = .int .i64 k ∧ Filled wr w.heap.size 31 6 ShipD.enc w.heap.size xs.length (xs.take k) ∧ Below w.heap.size w wr) (fun i _ => xs.length - (intOf i).toNat)
  case atStart => exact ⟨0, Nat.zero_le _, rfl, HF, hb⟩
  case round =>
    clear HF hb
    obtain ⟨k, hk, rfl, HF, hb⟩ := hrel
    by_cases hlt : k < xs.length
    · obtain ⟨b1, o1, rfl, hb1, hcell1⟩ := h1 (by omega)
      have e0 : wr.cell? ⟨b1, o1 + k * 6, none⟩ = some (.string (xs[k]).name) := by
        rw [hb.cell (p := ⟨b1, _, none⟩) hb1]; have := hcell1 k xs[k] (List.getElem?_eq_getElem hlt) 0 _ rfl; simpa using this
      have e1 : wr.cell? ⟨b1, o1 + k * 6 + 1, none⟩ = some (.int .i64 (xs[k]).length) := by
        rw [hb.cell (p := ⟨b1, _, none⟩) hb1]; have := hcell1 k xs[k] (List.getElem?_eq_getElem hlt) 1 _ rfl; simpa using this
      have e2 : wr.cell? ⟨b1, o1 + k * 6 + 2, none⟩ = some (.int .i64 (xs[k]).draught) := by
        rw [hb.cell (p := ⟨b1, _, none⟩) hb1]; have := hcell1 k xs[k] (List.getElem?_eq_getElem hlt) 2 _ rfl; simpa using this
      have e3 : wr.cell? ⟨b1, o1 + k * 6 + 3, none⟩ = some (.int .i64 (xs[k]).line) := by
        rw [hb.cell (p := ⟨b1, _, none⟩) hb1]; have := hcell1 k xs[k] (List.getElem?_eq_getElem hlt) 3 _ rfl; simpa using this
      have e4 : wr.cell? ⟨b1, o1 + k * 6 + 4, none⟩ = some (.int .i64 (xs[k]).tugs) := by
        rw [hb.cell (p := ⟨b1, _, none⟩) hb1]; have := hcell1 k xs[k] (List.getElem?_eq_getElem hlt) 4 _ rfl; simpa using this
      have e5 : wr.cell? ⟨b1, o1 + k * 6 + 5, none⟩ = some (.bool (xs[k]).slow) := by
        rw [hb.cell (p := ⟨b1, _, none⟩) hb1]; have := hcell1 k xs[k] (List.getElem?_eq_getElem hlt) 5 _ rfl; simpa using this
      clear hcell1 h1
      go_wp2_with fail
      refine (toShip_any _ _ _ _ _ _ _).mono ?_; rintro e w2 ⟨rfl, hb2⟩
      have HF2 := HF.below hb2
      have hz2 := HF2.lt.2
      have hb3 := bnext hb hb2 (Nat.le_refl _)
      clear e0 e1 e2 e3 e4 e5 HF hb hb2
      have hkb : k * 6 + 6 ≤ xs.length * 6 := by have := Nat.mul_le_mul_right 6 hlt; rw [Nat.succ_mul] at this; exact this
      obtain ⟨⟨u0, f0⟩, g0⟩ := HF2.cell (j := k * 6) (by omega)
      obtain ⟨⟨u1, f1⟩, g1⟩ := HF2.cell (j := k * 6 + 1) (by omega)
      obtain ⟨⟨u2, f2⟩, g2⟩ := HF2.cell (j := k * 6 + 2) (by omega)
      obtain ⟨⟨u3, f3⟩, g3⟩ := HF2.cell (j := k * 6 + 3) (by omega)
      obtain ⟨⟨u4, f4⟩, g4⟩ := HF2.cell (j := k * 6 + 4) (by omega)
      obtain ⟨⟨u5, f5⟩, g5⟩ := HF2.cell (j := k * 6 + 5) (by omega)
      go_wp2
      go_roundw
      case rel =>
        refine ⟨k + 1, by omega, by go_num, ?_, below_storeRow (Nat.le_refl _) [.string (xs[k]).name, .int .i64 (xs[k]).length, .int .i64 (xs[k]).draught, .int .i64 (xs[k]).line, .int .i64 (xs[k]).tugs, .bool (xs[k]).slow] _ (k * 6) hb3⟩
        have := HF2.next ShipD.enc_len (by simp; omega) xs[k]
        rw [List.take_succ_eq_append_getElem hlt]
        simpa [storeRow, ShipD.enc, Nat.min_eq_left hk] using this
      case measure => simp [intOf]; omega
    · obtain rfl : k = xs.length := by omega
      go_wp2
      go_ret
      exact ⟨rfl, by have := HF.own (by simp); simpa using this, hb⟩
theorem toShipS_any (v1 : Value) (xs : List ShipD) (w : World) (h1 : RdShip w v1 xs) (hn : xs.length ≤ 1048576) :
    Calls Try.prog 38 #[v1] w fun e w' => ∃ v, e = .returned v ∧ Own w' w.heap.size 31 6 ShipD.enc v xs ∧ Below w.heap.size w w' :=
  (toShipS_at v1 xs w h1 hn).mono fun _ _ ⟨he, ho, hb⟩ => ⟨_, he, ho, hb⟩
theorem eqShip_split (x0 : ByteArray) (x1 : Int) (x2 : Int) (x3 : Int) (x4 : Int) (x5 : Bool) (y0 : ByteArray) (y1 : Int) (y2 : Int) (y3 : Int) (y4 : Int) (y5 : Bool) (P : Bool → Prop)
    (h0 : x0 ≠ y0 → P false)
    (h1 : x0 = y0 → x1 ≠ y1 → P false)
    (h2 : x0 = y0 → x1 = y1 → x2 ≠ y2 → P false)
    (h3 : x0 = y0 → x1 = y1 → x2 = y2 → x3 ≠ y3 → P false)
    (h4 : x0 = y0 → x1 = y1 → x2 = y2 → x3 = y3 → x4 ≠ y4 → P false)
    (h5 : x0 = y0 → x1 = y1 → x2 = y2 → x3 = y3 → x4 = y4 → x5 ≠ y5 → P false)
    (h : x0 = y0 → x1 = y1 → x2 = y2 → x3 = y3 → x4 = y4 → x5 = y5 → P true) : P (ShipD.eqB ⟨x0, x1, x2, x3, x4, x5⟩ ⟨y0, y1, y2, y3, y4, y5⟩) := by
  unfold ShipD.eqB
  by_cases e0 : x0 = y0
  case neg =>
    have : ¬ (⟨x0, x1, x2, x3, x4, x5⟩ : ShipD) = ⟨y0, y1, y2, y3, y4, y5⟩ := by intro h; injection h; contradiction
    simp only [this, decide_false]; exact h0  e0
  by_cases e1 : x1 = y1
  case neg =>
    have : ¬ (⟨x0, x1, x2, x3, x4, x5⟩ : ShipD) = ⟨y0, y1, y2, y3, y4, y5⟩ := by intro h; injection h; contradiction
    simp only [this, decide_false]; exact h1 e0 e1
  by_cases e2 : x2 = y2
  case neg =>
    have : ¬ (⟨x0, x1, x2, x3, x4, x5⟩ : ShipD) = ⟨y0, y1, y2, y3, y4, y5⟩ := by intro h; injection h; contradiction
    simp only [this, decide_false]; exact h2 e0 e1 e2
  by_cases e3 : x3 = y3
  case neg =>
    have : ¬ (⟨x0, x1, x2, x3, x4, x5⟩ : ShipD) = ⟨y0, y1, y2, y3, y4, y5⟩ := by intro h; injection h; contradiction
    simp only [this, decide_false]; exact h3 e0 e1 e2 e3
  by_cases e4 : x4 = y4
  case neg =>
    have : ¬ (⟨x0, x1, x2, x3, x4, x5⟩ : ShipD) = ⟨y0, y1, y2, y3, y4, y5⟩ := by intro h; injection h; contradiction
    simp only [this, decide_false]; exact h4 e0 e1 e2 e3 e4
  by_cases e5 : x5 = y5
  case neg =>
    have : ¬ (⟨x0, x1, x2, x3, x4, x5⟩ : ShipD) = ⟨y0, y1, y2, y3, y4, y5⟩ := by intro h; injection h; contradiction
    simp only [this, decide_false]; exact h5 e0 e1 e2 e3 e4 e5
  subst e0 e1 e2 e3 e4 e5
  simp only [decide_true]; exact h rfl rfl rfl rfl rfl rfl
set_option maxHeartbeats 2000000 in
theorem eqShip_any (x0 : ByteArray) (x1 : Int) (x2 : Int) (x3 : Int) (x4 : Int) (x5 : Bool) (y0 : ByteArray) (y1 : Int) (y2 : Int) (y3 : Int) (y4 : Int) (y5 : Bool) (w : World) :
    Calls Try.prog 73 #[.agg #[.string x0, .int .i64 x1, .int .i64 x2, .int .i64 x3, .int .i64 x4, .bool x5], .agg #[.string y0, .int .i64 y1, .int .i64 y2, .int .i64 y3, .int .i64 y4, .bool y5]] w fun e w' => e = .returned (.bool (ShipD.eqB ⟨x0, x1, x2, x3, x4, x5⟩ ⟨y0, y1, y2, y3, y4, y5⟩)) ∧ Below w.heap.size w w' := by
  refine eqShip_split x0 x1 x2 x3 x4 x5 y0 y1 y2 y3 y4 y5 (fun r => Calls Try.prog 73 #[.agg #[.string x0, .int .i64 x1, .int .i64 x2, .int .i64 x3, .int .i64 x4, .bool x5], .agg #[.string y0, .int .i64 y1, .int .i64 y2, .int .i64 y3, .int .i64 y4, .bool y5]] w fun e w' => e = .returned (.bool r) ∧ Below w.heap.size w w') ?_ ?_ ?_ ?_ ?_ ?_ ?_
  · intro e0
    have q0 := ba_ne e0
    clear e0
    go_enter Try.func73, Try.ntmps73
    go_wp2_with fail
    go_ret
    exact ⟨rfl, (by repeat (first | exact Below.refl _ _ | assumption | refine Below.setCell ?_ (by first | omega | (simp <;> omega)) _ | refine Below.alloc ?_ (by first | omega | (simp <;> omega)) _ | refine below_drewN ?_ _ | refine Below.drew ?_ | refine Below.trans ?_ (Below.mono (by assumption) (by first | omega | (simp <;> omega)))))⟩
  · intro e0 e1
    subst e0
    have q1 : (x1 != y1) = true := by simpa using e1
    clear e1
    go_enter Try.func73, Try.ntmps73
    go_wp2_with fail
    go_ret
    exact ⟨rfl, (by repeat (first | exact Below.refl _ _ | assumption | refine Below.setCell ?_ (by first | omega | (simp <;> omega)) _ | refine Below.alloc ?_ (by first | omega | (simp <;> omega)) _ | refine below_drewN ?_ _ | refine Below.drew ?_ | refine Below.trans ?_ (Below.mono (by assumption) (by first | omega | (simp <;> omega)))))⟩
  · intro e0 e1 e2
    subst e0
    subst e1
    have q2 : (x2 != y2) = true := by simpa using e2
    clear e2
    go_enter Try.func73, Try.ntmps73
    go_wp2_with fail
    go_ret
    exact ⟨rfl, (by repeat (first | exact Below.refl _ _ | assumption | refine Below.setCell ?_ (by first | omega | (simp <;> omega)) _ | refine Below.alloc ?_ (by first | omega | (simp <;> omega)) _ | refine below_drewN ?_ _ | refine Below.drew ?_ | refine Below.trans ?_ (Below.mono (by assumption) (by first | omega | (simp <;> omega)))))⟩
  · intro e0 e1 e2 e3
    subst e0
    subst e1
    subst e2
    have q3 : (x3 != y3) = true := by simpa using e3
    clear e3
    go_enter Try.func73, Try.ntmps73
    go_wp2_with fail
    go_ret
    exact ⟨rfl, (by repeat (first | exact Below.refl _ _ | assumption | refine Below.setCell ?_ (by first | omega | (simp <;> omega)) _ | refine Below.alloc ?_ (by first | omega | (simp <;> omega)) _ | refine below_drewN ?_ _ | refine Below.drew ?_ | refine Below.trans ?_ (Below.mono (by assumption) (by first | omega | (simp <;> omega)))))⟩
  · intro e0 e1 e2 e3 e4
    subst e0
    subst e1
    subst e2
    subst e3
    have q4 : (x4 != y4) = true := by simpa using e4
    clear e4
    go_enter Try.func73, Try.ntmps73
    go_wp2_with fail
    go_ret
    exact ⟨rfl, (by repeat (first | exact Below.refl _ _ | assumption | refine Below.setCell ?_ (by first | omega | (simp <;> omega)) _ | refine Below.alloc ?_ (by first | omega | (simp <;> omega)) _ | refine below_drewN ?_ _ | refine Below.drew ?_ | refine Below.trans ?_ (Below.mono (by assumption) (by first | omega | (simp <;> omega)))))⟩
  · intro e0 e1 e2 e3 e4 e5
    subst e0
    subst e1
    subst e2
    subst e3
    subst e4
    have q5 : y5 = !x5 := by cases x5 <;> cases y5 <;> simp_all
    subst q5
    cases x5
    all_goals
      clear e5
      go_enter Try.func73, Try.ntmps73
      go_wp2_with fail
      go_ret
      exact ⟨rfl, (by repeat (first | exact Below.refl _ _ | assumption | refine Below.setCell ?_ (by first | omega | (simp <;> omega)) _ | refine Below.alloc ?_ (by first | omega | (simp <;> omega)) _ | refine below_drewN ?_ _ | refine Below.drew ?_ | refine Below.trans ?_ (Below.mono (by assumption) (by first | omega | (simp <;> omega)))))⟩
  · intro e0 e1 e2 e3 e4 e5
    subst e0
    subst e1
    subst e2
    subst e3
    subst e4
    subst e5
    go_enter Try.func73, Try.ntmps73
    go_wp2_with fail
    go_ret
    exact ⟨rfl, (by repeat (first | exact Below.refl _ _ | assumption | refine Below.setCell ?_ (by first | omega | (simp <;> omega)) _ | refine Below.alloc ?_ (by first | omega | (simp <;> omega)) _ | refine below_drewN ?_ _ | refine Below.drew ?_ | refine Below.trans ?_ (Below.mono (by assumption) (by first | omega | (simp <;> omega)))))⟩
set_option maxHeartbeats 2000000 in
theorem eqShipS_any (v1 v2 : Value) (xs ys : List ShipD) (w : World) (h1 : RdShip w v1 xs) (h2 : RdShip w v2 ys) :
    Calls Try.prog 40 #[v1, v2] w fun e w' => e = .returned (.bool (decide (xs = ys))) ∧ Below w.heap.size w w' := by
  obtain ⟨A1, c1, rfl, hc1, hm1, h1⟩ := h1
  obtain ⟨A2, c2, rfl, hc2, hm2, h2⟩ := h2
  unfold maxLen at hm1 hm2
  by_cases hl : xs.length = ys.length
  · have hlt : ((xs.length : Int) != (ys.length : Int)) = false := by simp [hl]
    have HL := hide hl
    clear hl
    go_enter Try.func40, Try.ntmps40
    go_wp2
    go_loopw [5] (fun i wr => ∃ k : Nat, k ≤ xs.length ∧ i = .int .i64 k ∧ Hid (xs.take k = ys.take k) ∧ Below w.heap.size w wr) (fun i _ => xs.length - (intOf i).toNat)
    case atStart => exact ⟨0, Nat.zero_le _, rfl, hide rfl, Below.refl _ _⟩
    case round =>
      obtain ⟨k, hk, rfl, HT, hb⟩ := hrel
      by_cases hlt : k < xs.length
      · obtain ⟨b1, o1, rfl, hb1, hcell1⟩ := h1 (by omega)
        obtain ⟨b2, o2, rfl, hb2, hcell2⟩ := h2 (by have := HL.out; omega)
        have hk2 : k < ys.length := by have := HL.out; omega
        have e0 : wr.cell? ⟨b1, o1 + k * 6, none⟩ = some (.string (xs[k]).name) := by
          rw [hb.cell (p := ⟨b1, _, none⟩) hb1]; have := hcell1 k xs[k] (List.getElem?_eq_getElem hlt) 0 _ rfl; simpa using this
        have e1 : wr.cell? ⟨b1, o1 + k * 6 + 1, none⟩ = some (.int .i64 (xs[k]).length) := by
          rw [hb.cell (p := ⟨b1, _, none⟩) hb1]; have := hcell1 k xs[k] (List.getElem?_eq_getElem hlt) 1 _ rfl; simpa using this
        have e2 : wr.cell? ⟨b1, o1 + k * 6 + 2, none⟩ = some (.int .i64 (xs[k]).draught) := by
          rw [hb.cell (p := ⟨b1, _, none⟩) hb1]; have := hcell1 k xs[k] (List.getElem?_eq_getElem hlt) 2 _ rfl; simpa using this
        have e3 : wr.cell? ⟨b1, o1 + k * 6 + 3, none⟩ = some (.int .i64 (xs[k]).line) := by
          rw [hb.cell (p := ⟨b1, _, none⟩) hb1]; have := hcell1 k xs[k] (List.getElem?_eq_getElem hlt) 3 _ rfl; simpa using this
        have e4 : wr.cell? ⟨b1, o1 + k * 6 + 4, none⟩ = some (.int .i64 (xs[k]).tugs) := by
          rw [hb.cell (p := ⟨b1, _, none⟩) hb1]; have := hcell1 k xs[k] (List.getElem?_eq_getElem hlt) 4 _ rfl; simpa using this
        have e5 : wr.cell? ⟨b1, o1 + k * 6 + 5, none⟩ = some (.bool (xs[k]).slow) := by
          rw [hb.cell (p := ⟨b1, _, none⟩) hb1]; have := hcell1 k xs[k] (List.getElem?_eq_getElem hlt) 5 _ rfl; simpa using this
        have f0 : wr.cell? ⟨b2, o2 + k * 6, none⟩ = some (.string (ys[k]).name) := by
          rw [hb.cell (p := ⟨b2, _, none⟩) hb2]; have := hcell2 k ys[k] (List.getElem?_eq_getElem hk2) 0 _ rfl; simpa using this
        have f1 : wr.cell? ⟨b2, o2 + k * 6 + 1, none⟩ = some (.int .i64 (ys[k]).length) := by
          rw [hb.cell (p := ⟨b2, _, none⟩) hb2]; have := hcell2 k ys[k] (List.getElem?_eq_getElem hk2) 1 _ rfl; simpa using this
        have f2 : wr.cell? ⟨b2, o2 + k * 6 + 2, none⟩ = some (.int .i64 (ys[k]).draught) := by
          rw [hb.cell (p := ⟨b2, _, none⟩) hb2]; have := hcell2 k ys[k] (List.getElem?_eq_getElem hk2) 2 _ rfl; simpa using this
        have f3 : wr.cell? ⟨b2, o2 + k * 6 + 3, none⟩ = some (.int .i64 (ys[k]).line) := by
          rw [hb.cell (p := ⟨b2, _, none⟩) hb2]; have := hcell2 k ys[k] (List.getElem?_eq_getElem hk2) 3 _ rfl; simpa using this
        have f4 : wr.cell? ⟨b2, o2 + k * 6 + 4, none⟩ = some (.int .i64 (ys[k]).tugs) := by
          rw [hb.cell (p := ⟨b2, _, none⟩) hb2]; have := hcell2 k ys[k] (List.getElem?_eq_getElem hk2) 4 _ rfl; simpa using this
        have f5 : wr.cell? ⟨b2, o2 + k * 6 + 5, none⟩ = some (.bool (ys[k]).slow) := by
          rw [hb.cell (p := ⟨b2, _, none⟩) hb2]; have := hcell2 k ys[k] (List.getElem?_eq_getElem hk2) 5 _ rfl; simpa using this
        have hz1 : b1 < wr.heap.size := Nat.lt_of_lt_of_le hb1 hb.size
        have hz2 : b2 < wr.heap.size := Nat.lt_of_lt_of_le hb2 hb.size
        have hk2' : (k : Int) < (ys.length : Int) := by omega
        clear hcell1 hcell2 h1 h2
        by_cases he : xs[k] = ys[k]
        · have HE := hide he
          have he' : ShipD.eqB xs[k] ys[k] = true := by simpa [ShipD.eqB] using he
          clear he
          go_wp2_with fail
          refine wp_region_below (Below.refl wr.heap.size _) (by kernel_rfl) (by kernel_rfl) ?_
          repeat (first
            | go_big_quiet_skip
            | (go_big_quiet_want
               first
                | (refine quiet_value ?_; apply Exists.intro
                   refine ⟨fun wq hq => ?_, ?_⟩
                   · (obtain ⟨hc, hf⟩ := bcell hq; go_simp; first | done | rfl)
                   go_big_quiet_on
                   simp only [Act.put, List.setIfInBounds_toArray, List.set_cons_zero, List.set_cons_succ])
                | (refine quiet_call ?_; apply Exists.intro; apply Exists.intro; apply Exists.intro
                   refine ⟨fun wq hq => ?_, fun wq hq => ?_, ?_⟩
                   · (obtain ⟨hc, hf⟩ := bcell hq; go_simp; exact ⟨rfl, rfl⟩)
                   · (first | with_reducible exact (eqShip_any _ _ _ _ _ _ _ _ _ _ _ _ _).mono fun e w'' ⟨he, hw⟩ => ⟨he, hw ▸ hq⟩ | with_reducible exact (eqShip_any _ _ _ _ _ _ _ _ _ _ _ _ _).mono fun e w'' ⟨he, hb'⟩ => ⟨he, bnext hq hb'⟩ |  exact (eqShip_any _ _ _ _ _ _ _ _ _ _ _ _ _).mono fun e w'' ⟨he, hb'⟩ => ⟨he, bnext hq hb'⟩ |  exact (eqShip_any _ _ _ _ _ _ _ _ _ _ _ _ _).mono fun e w'' ⟨he, hw⟩ => ⟨he, hw ▸ hq⟩)
                   go_big_quiet_on
                   simp only [Act.put, List.setIfInBounds_toArray, List.set_cons_zero, List.set_cons_succ])
                | (go_big_quiet_op; go_big_quiet_on)
               ))
          refine wpQuiet_nil (fun w1 hb' => ?_)
          obtain ⟨hc, hf⟩ := bcell hb'
          have hz := hb'.size; (try simp at hz)
          go_wp2
          go_roundw
          case rel => exact ⟨k + 1, by omega, by go_num, hide (take_succ_eq HT.out hlt hk2 HE.out), bnext hb hb' (Nat.le_refl _)⟩
          case measure => simp [intOf]; omega
        · have HE := hide he
          have he' : ShipD.eqB xs[k] ys[k] = false := by simpa [ShipD.eqB] using he
          clear he
          go_wp2_with fail
          refine wp_region_below (Below.refl wr.heap.size _) (by kernel_rfl) (by kernel_rfl) ?_
          repeat (first
            | go_big_quiet_skip
            | (go_big_quiet_want
               first
                | (refine quiet_value ?_; apply Exists.intro
                   refine ⟨fun wq hq => ?_, ?_⟩
                   · (obtain ⟨hc, hf⟩ := bcell hq; go_simp; first | done | rfl)
                   go_big_quiet_on
                   simp only [Act.put, List.setIfInBounds_toArray, List.set_cons_zero, List.set_cons_succ])
                | (refine quiet_call ?_; apply Exists.intro; apply Exists.intro; apply Exists.intro
                   refine ⟨fun wq hq => ?_, fun wq hq => ?_, ?_⟩
                   · (obtain ⟨hc, hf⟩ := bcell hq; go_simp; exact ⟨rfl, rfl⟩)
                   · (first | with_reducible exact (eqShip_any _ _ _ _ _ _ _ _ _ _ _ _ _).mono fun e w'' ⟨he, hw⟩ => ⟨he, hw ▸ hq⟩ | with_reducible exact (eqShip_any _ _ _ _ _ _ _ _ _ _ _ _ _).mono fun e w'' ⟨he, hb'⟩ => ⟨he, bnext hq hb'⟩ |  exact (eqShip_any _ _ _ _ _ _ _ _ _ _ _ _ _).mono fun e w'' ⟨he, hb'⟩ => ⟨he, bnext hq hb'⟩ |  exact (eqShip_any _ _ _ _ _ _ _ _ _ _ _ _ _).mono fun e w'' ⟨he, hw⟩ => ⟨he, hw ▸ hq⟩)
                   go_big_quiet_on
                   simp only [Act.put, List.setIfInBounds_toArray, List.set_cons_zero, List.set_cons_succ])
                | (go_big_quiet_op; go_big_quiet_on)
               ))
          refine wpQuiet_nil (fun w1 hb' => ?_)
          obtain ⟨hc, hf⟩ := bcell hb'
          have hz := hb'.size; (try simp at hz)
          go_wp2
          go_ret
          refine ⟨?_, bnext hb hb' (Nat.le_refl _)⟩
          have : xs ≠ ys := fun e => HE.out (by subst e; rfl)
          simp [this]
      · obtain rfl : k = xs.length := by omega
        go_wp2
        go_ret
        refine ⟨?_, hb⟩
        have h := HT.out
        rw [List.take_length, HL.out, List.take_length] at h
        simp [h]
  · have hlt : ((xs.length : Int) != (ys.length : Int)) = true := by simp; omega
    have HL := hide hl
    clear hl
    go_enter Try.func40, Try.ntmps40
    go_wp2
    go_ret
    have : xs ≠ ys := fun e => HL.out (by rw [e])
    exact ⟨by simp [this], (by repeat (first | exact Below.refl _ _ | assumption | refine Below.setCell ?_ (by first | omega | (simp <;> omega)) _ | refine Below.alloc ?_ (by first | omega | (simp <;> omega)) _ | refine below_drewN ?_ _ | refine Below.drew ?_ | refine Below.trans ?_ (Below.mono (by assumption) (by first | omega | (simp <;> omega)))))⟩
set_option maxHeartbeats 1000000 in
theorem szShip_any (x0 : ByteArray) (x1 : Int) (x2 : Int) (x3 : Int) (x4 : Int) (x5 : Bool) (left : Int) (w : World) (hs : x0.size ≤ maxLen) (hl0 : 0 ≤ left) (hl1 : left ≤ 1048576) :
    Calls Try.prog 14 #[.agg #[.string x0, .int .i64 x1, .int .i64 x2, .int .i64 x3, .int .i64 x4, .bool x5], .int .i64 left] w fun e w' => ∃ r : Int, e = .returned (.int .i64 r) ∧ (0 ≤ r → r ≤ left ∧ (x0.size : Int) ≤ left) ∧ r ≤ 1048576 ∧ Below w.heap.size w w' := by
  unfold maxLen at hs
  by_cases hl : left < (x0.size : Int)
  · go_enter Try.func14, Try.ntmps14
    go_wp2
    go_ret
    exact ⟨-1, rfl, by omega, by omega, (by repeat (first | exact Below.refl _ _ | assumption | refine Below.setCell ?_ (by first | omega | (simp <;> omega)) _ | refine Below.alloc ?_ (by first | omega | (simp <;> omega)) _ | refine below_drewN ?_ _ | refine Below.drew ?_ | refine Below.trans ?_ (Below.mono (by assumption) (by first | omega | (simp <;> omega)))))⟩
  · go_enter Try.func14, Try.ntmps14
    go_wp2
    go_ret
    exact ⟨left - (x0.size : Int), rfl, by omega, by omega, (by repeat (first | exact Below.refl _ _ | assumption | refine Below.setCell ?_ (by first | omega | (simp <;> omega)) _ | refine Below.alloc ?_ (by first | omega | (simp <;> omega)) _ | refine below_drewN ?_ _ | refine Below.drew ?_ | refine Below.trans ?_ (Below.mono (by assumption) (by first | omega | (simp <;> omega)))))⟩
set_option maxHeartbeats 2000000 in
theorem szShipS_any (v1 : Value) (xs : List ShipD) (left : Int) (w : World) (h1 : RdShip w v1 xs) (hok : ∀ x ∈ xs, x.name.size ≤ maxLen) (hl0 : 0 ≤ left) (hl1 : left ≤ 1048576) :
    Calls Try.prog 36 #[v1, .int .i64 left] w fun e w' => ∃ r : Int, e = .returned (.int .i64 r) ∧ (0 ≤ r → r ≤ left ∧ (xs.length : Int) ≤ left ∧ ∀ x ∈ xs, x.name.size ≤ 1048576) ∧ r ≤ 1048576 ∧ Below w.heap.size w w' := by
  obtain ⟨A1, c1, rfl, hc1, hm1, h1⟩ := h1
  unfold maxLen at hm1
  by_cases hl : left < (xs.length : Int)
  · go_enter Try.func36, Try.ntmps36
    go_wp2
    go_ret
    exact ⟨-1, rfl, by omega, by omega, Below.refl _ _⟩
  · go_enter Try.func36, Try.ntmps36
    go_wp2
    go_loopw [1, 5] (fun lv i wr => ∃ (k : Nat) (l : Int), k ≤ xs.length ∧ i = .int .i64 k ∧ lv = .int .i64 l ∧ 0 ≤ l ∧ l ≤ left ∧ Hid (∀ x ∈ xs.take k, x.name.size ≤ 1048576) ∧ Below w.heap.size w wr) (fun _ i _ => xs.length - (intOf i).toNat)
    case atStart => exact ⟨0, left - xs.length, Nat.zero_le _, rfl, rfl, by omega, by omega, hide (by simp), Below.refl _ _⟩
    case round =>
      obtain ⟨k, l, hk, rfl, rfl, l0, l1, HN, hb⟩ := hrel
      by_cases hlt : k < xs.length
      · obtain ⟨b1, o1, rfl, hb1, hcell1⟩ := h1 (by omega)
        have hsk := hok xs[k] (List.getElem_mem hlt)
        have e0 : wr.cell? ⟨b1, o1 + k * 6, none⟩ = some (.string (xs[k]).name) := by
          rw [hb.cell (p := ⟨b1, _, none⟩) hb1]; have := hcell1 k xs[k] (List.getElem?_eq_getElem hlt) 0 _ rfl; simpa using this
        have e1 : wr.cell? ⟨b1, o1 + k * 6 + 1, none⟩ = some (.int .i64 (xs[k]).length) := by
          rw [hb.cell (p := ⟨b1, _, none⟩) hb1]; have := hcell1 k xs[k] (List.getElem?_eq_getElem hlt) 1 _ rfl; simpa using this
        have e2 : wr.cell? ⟨b1, o1 + k * 6 + 2, none⟩ = some (.int .i64 (xs[k]).draught) := by
          rw [hb.cell (p := ⟨b1, _, none⟩) hb1]; have := hcell1 k xs[k] (List.getElem?_eq_getElem hlt) 2 _ rfl; simpa using this
        have e3 : wr.cell? ⟨b1, o1 + k * 6 + 3, none⟩ = some (.int .i64 (xs[k]).line) := by
          rw [hb.cell (p := ⟨b1, _, none⟩) hb1]; have := hcell1 k xs[k] (List.getElem?_eq_getElem hlt) 3 _ rfl; simpa using this
        have e4 : wr.cell? ⟨b1, o1 + k * 6 + 4, none⟩ = some (.int .i64 (xs[k]).tugs) := by
          rw [hb.cell (p := ⟨b1, _, none⟩) hb1]; have := hcell1 k xs[k] (List.getElem?_eq_getElem hlt) 4 _ rfl; simpa using this
        have e5 : wr.cell? ⟨b1, o1 + k * 6 + 5, none⟩ = some (.bool (xs[k]).slow) := by
          rw [hb.cell (p := ⟨b1, _, none⟩) hb1]; have := hcell1 k xs[k] (List.getElem?_eq_getElem hlt) 5 _ rfl; simpa using this
        have HK := hide hok
        clear hcell1 h1 hok
        go_wp2_with fail
        refine (szShip_any _ _ _ _ _ _ l _ hsk l0 (by omega)).mono ?_; rintro e w2 ⟨r, rfl, hr, hr1, hb2⟩
        have hb3 := bnext hb hb2 (Nat.le_refl _)
        by_cases hr0 : r < 0
        · clear hr
          go_wp2
          go_ret
          exact ⟨-1, rfl, by omega, by omega, hb3⟩
        · obtain ⟨ha, hc⟩ := hr (by omega)
          go_wp2
          go_roundw
          case rel =>
            refine ⟨k + 1, r, by omega, by go_num, rfl, by omega, by omega, hide ?_, hb3⟩
            rw [List.take_succ_eq_append_getElem hlt]
            intro x hx
            rcases List.mem_append.1 hx with hx | hx
            · exact HN.out x hx
            · simp at hx; subst hx; omega
          case measure => simp [intOf]; omega
      · obtain rfl : k = xs.length := by omega
        go_wp2
        go_ret
        exact ⟨l, rfl, fun _ => ⟨l1, by omega, by have := HN.out; simpa using this⟩, by omega, hb⟩
def ShipD.mk' (k : Int) : ShipD := ⟨(markT (k)), (k + 1), (k + 1 + 1), (k + 1 + 1 + 1), (k + 1 + 1 + 1 + 1), (((k + 1 + 1 + 1 + 1 + 1) % 3) == 0)⟩
set_option maxHeartbeats 4000000 in
theorem markShipS_any (v : Value) (xs : List ShipD) (k : Int) (base : Nat) (w : World) (h1 : Own w base 31 6 ShipD.enc v xs) (hk0 : 1 ≤ k) (hk1 : k ≤ 1099511627776) (hn : xs.length ≤ 1073741824) :
    Calls Try.prog 52 #[v, .int .i64 k] w fun e w' => e = .returned (.int .i64 (k + xs.length * 6)) ∧ Own w' base 31 6 ShipD.enc v (marks ShipD.mk' 6 k xs.length) ∧ w.grownBy w' v.ownBlock := by
  rcases h1.cases with ⟨rfl, rfl⟩ | ⟨g, cap, rfl, hg, hgs, hnc, hm⟩
  · go_enter Try.func52, Try.ntmps52
    go_wp2
    go_loop [1, 5] (fun kv i => kv = .int .i64 k ∧ i = .int .i64 0) (fun _ _ => 0)
    case atStart => exact ⟨rfl, rfl⟩
    case round =>
      obtain ⟨rfl, rfl⟩ := hrel
      go_wp2
      go_ret
      exact ⟨by simp, by simpa [marks] using h1, World.grownBy.refl _ _⟩
  · unfold maxLen at hm
    go_enter Try.func52, Try.ntmps52
    go_wp2
    go_loopw [1, 5] (fun kv i wr => ∃ (j : Nat) (q : Int), j ≤ xs.length ∧ i = .int .i64 j ∧ kv = .int .i64 q ∧ Hid (q = k + (j : Int) * (6 : Nat)) ∧ 1 ≤ q ∧ q ≤ 2199023255552 ∧ Own wr base 31 6 ShipD.enc (.slice (some ⟨g, 0, none⟩) xs.length cap) (marks ShipD.mk' 6 k j ++ xs.drop j) ∧ w.grownBy wr (some g)) (fun _ i _ => xs.length - (intOf i).toNat)
    case atStart => exact ⟨0, k, Nat.zero_le _, rfl, rfl, hide (by simp), by omega, by omega, by simpa [marks] using h1, World.grownBy.refl _ _⟩
    case round =>
      obtain ⟨j, q, hj, rfl, rfl, HQ, q0, q1, HO, hgr⟩ := hrel
      by_cases hlt : j < xs.length
      · have hml := marks_mid_length ShipD.mk' 6 k xs j hj
        have HM := hide hml
        have hj' : j < (marks ShipD.mk' 6 k j ++ xs.drop j).length := by omega
        have hq2 : q + 6 ≤ 2199023255552 := by have := HQ.out; omega
        obtain ⟨e0, f0⟩ := Own.cells (i := j) (j := 0) ShipD.enc_len (by rw [hml]; exact HO) hj' rfl
        obtain ⟨e1, f1⟩ := Own.cells (i := j) (j := 1) ShipD.enc_len (by rw [hml]; exact HO) hj' rfl
        obtain ⟨e2, f2⟩ := Own.cells (i := j) (j := 2) ShipD.enc_len (by rw [hml]; exact HO) hj' rfl
        obtain ⟨e3, f3⟩ := Own.cells (i := j) (j := 3) ShipD.enc_len (by rw [hml]; exact HO) hj' rfl
        obtain ⟨e4, f4⟩ := Own.cells (i := j) (j := 4) ShipD.enc_len (by rw [hml]; exact HO) hj' rfl
        obtain ⟨e5, f5⟩ := Own.cells (i := j) (j := 5) ShipD.enc_len (by rw [hml]; exact HO) hj' rfl
        simp only [Nat.add_zero] at e0 f0
        have hzz : g < wr.heap.size := Nat.lt_of_lt_of_le hgs hgr.size
        clear hml
        go_wp2_with fail
        refine (markText_any _ _ (by omega) (by omega)).mono ?_; rintro e w2 ⟨rfl, hb2⟩
        obtain ⟨hc, hf⟩ := bcell hb2
        have hs2 := hb2.size
        have hgr2 : w.grownBy w2 (some g) := ⟨hb2.os.trans hgr.os, hb2.tape.trans hgr.tape, hb2.output.trans hgr.output, Nat.le_trans hgr.size hb2.size, fun i hi hne => (hb2.block i (Nat.lt_of_lt_of_le hi hgr.size)).trans (hgr.block i hi hne)⟩
        have hO2 := Own.below HO hb2
        clear hb2
        go_wp2
        go_roundw
        case rel =>
          refine ⟨j + 1, q + 6, by omega, by go_num, by go_num, hide (by have := HQ.out; omega), by omega, by omega, ?_, ?_⟩
          · have := Own.setRow (i := j) ShipD.enc_len (by rw [HM.out]; exact hO2) hj' (ShipD.mk' q)
            rw [HM.out] at this
            have e := marks_step ShipD.mk' 6 k xs j hlt
            rw [← HQ.out] at e
            rw [e] at this
            simpa [storeRow, ShipD.enc, ShipD.mk', Nat.add_assoc] using this
          · have := grownBy_storeRow (g := g) (ShipD.mk' q).enc _ (j * 6) hgr2
            simpa [storeRow, ShipD.enc, ShipD.mk', Nat.add_assoc] using this
        case measure => simp [intOf]; omega
      · obtain rfl : j = xs.length := by omega
        go_wp2
        go_ret
        exact ⟨by have := HQ.out; simp at this; simp [this], by simpa using HO, hgr⟩
end Go.Proofs.Ytjfppjhlkeopnaa

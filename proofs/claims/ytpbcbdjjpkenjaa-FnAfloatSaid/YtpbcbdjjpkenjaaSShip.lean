/- Ships as the laws' helpers handle them: conversion, comparison, marks. No condition. -/
import Derived.Test.YtpbcbdjjpkenjaaFix
import Derived.Test.YtpbcbdjjpkenjaaText
namespace Go.Proofs.Ytpbcbdjjpkenjaa
open Go.RowKit
set_option linter.unusedVariables false

structure ShipD where
  name : ByteArray
  length : Int
  draught : Int
  line : Int
  tugs : Int
  slow : Bool

theorem ShipD.ext_iff' (x y : ShipD) : (x.name = y.name ∧ x.length = y.length ∧ x.draught = y.draught ∧ x.line = y.line ∧ x.tugs = y.tugs ∧ x.slow = y.slow) ↔ x = y := by
  cases x; cases y; simp
instance : DecidableEq ShipD := fun x y => decidable_of_iff _ (ShipD.ext_iff' x y)
def ShipD.eqB (x y : ShipD) : Bool := decide (x = y)
instance : Inhabited ShipD := ⟨⟨ByteArray.empty, 0, 0, 0, 0, false⟩⟩
def ShipD.enc (x : ShipD) : List Value := [.string x.name, .int .i64 x.length, .int .i64 x.draught, .int .i64 x.line, .int .i64 x.tugs, .bool x.slow]
theorem ShipD.enc_len (x : ShipD) : x.enc.length = 6 := rfl
abbrev ShipD.val (x : ShipD) : Value := .agg #[.string x.name, .int .i64 x.length, .int .i64 x.draught, .int .i64 x.line, .int .i64 x.tugs, .bool x.slow]
/-- its numbers are int64s, its texts have a length that an int holds -/
def ShipD.ok (x : ShipD) : Prop := (Lit.int .i64 x.length).wf = true ∧ (Lit.int .i64 x.draught).wf = true ∧ (Lit.int .i64 x.line).wf = true ∧ (Lit.int .i64 x.tugs).wf = true ∧ x.name.size ≤ maxLen
theorem ShipD.ok_size {x : ShipD} (h : x.ok) : x.name.size ≤ maxLen := h.2.2.2.2
abbrev RdShip (w : World) (v : Value) (xs : List ShipD) : Prop := Rd w 6 ShipD.enc v xs
section
open Go.ChangeShapes Go.WideShapes Go.Deep
set_option maxRecDepth 100000 in
theorem openShip {H : Type} {enc : TypeId × Value → H} {W : World} {r : Reach} {b0 : Nat} {v : Value} {d : DataW H} {p : List MemPlace} (hv : Value.okWide Try.prog W r b0 61 v)
    (h : DataW.Trod enc Try.prog W 0 (fun _ => true) true 61 v d p) : ∃ x : ShipD, v = x.val ∧ x.ok := by
  obtain ⟨cs, rfl, hl, hf⟩ := open_struct Try.underlying61 (by kernel_rfl) (by kernel_rfl) hv h
  obtain ⟨c0, c1, c2, c3, c4, c5, rfl⟩ := list6 hl
  obtain ⟨u0, y0, m0, g0, hy0⟩ := hf 0 _ rfl
  have g0 := Option.some.inj g0; subst g0
  obtain ⟨a0, e0, -, w0⟩ := DataW.trod_string Try.underlying9 hy0
  simp only [List.cons.injEq, and_true] at e0; subst e0
  obtain ⟨u1, y1, m1, g1, hy1⟩ := hf 1 _ rfl
  have g1 := Option.some.inj g1; subst g1
  obtain ⟨a1, e1, -, w1⟩ := DataW.trod_int Try.underlying3 hy1
  simp only [List.cons.injEq, and_true] at e1; subst e1
  obtain ⟨u2, y2, m2, g2, hy2⟩ := hf 2 _ rfl
  have g2 := Option.some.inj g2; subst g2
  obtain ⟨a2, e2, -, w2⟩ := DataW.trod_int Try.underlying3 hy2
  simp only [List.cons.injEq, and_true] at e2; subst e2
  obtain ⟨u3, y3, m3, g3, hy3⟩ := hf 3 _ rfl
  have g3 := Option.some.inj g3; subst g3
  obtain ⟨a3, e3, -, w3⟩ := DataW.trod_int Try.underlying3 hy3
  simp only [List.cons.injEq, and_true] at e3; subst e3
  obtain ⟨u4, y4, m4, g4, hy4⟩ := hf 4 _ rfl
  have g4 := Option.some.inj g4; subst g4
  obtain ⟨a4, e4, -, w4⟩ := DataW.trod_int Try.underlying3 hy4
  simp only [List.cons.injEq, and_true] at e4; subst e4
  obtain ⟨u5, y5, m5, g5, hy5⟩ := hf 5 _ rfl
  have g5 := Option.some.inj g5; subst g5
  obtain ⟨a5, e5, -⟩ := DataW.trod_bool Try.underlying4 hy5
  simp only [List.cons.injEq, and_true] at e5; subst e5
  exact ⟨⟨a0, a1, a2, a3, a4, a5⟩, rfl, ⟨w1, w2, w3, w4, w0⟩⟩
end
set_option maxHeartbeats 1000000 in
theorem toShip_any (x0 : ByteArray) (x1 : Int) (x2 : Int) (x3 : Int) (x4 : Int) (x5 : Bool) (w : World) :
    Calls Try.prog 30 #[.agg #[.string x0, .int .i64 x1, .int .i64 x2, .int .i64 x3, .int .i64 x4, .bool x5]] w fun e w' => e = .returned (.agg #[.string x0, .int .i64 x1, .int .i64 x2, .int .i64 x3, .int .i64 x4, .bool x5]) ∧ Below w.heap.size w w' := by
  go_enter Try.func30, Try.ntmps30
  go_wp2_with fail
  exact bodyPost_ret (v := .agg #[.string x0, .int .i64 x1, .int .i64 x2, .int .i64 x3, .int .i64 x4, .bool x5]) (by simp [results, Try.results30, go_sem]) rfl ⟨rfl, (by repeat (first | exact Below.refl _ _ | assumption | refine Below.setCell ?_ (by first | omega | (simp <;> omega)) _ | refine Below.alloc ?_ (by first | omega | (simp <;> omega)) _ | refine below_drewN ?_ _ | refine Below.drew ?_ | refine Below.trans ?_ (Below.mono (by assumption) (by first | omega | (simp <;> omega)))))⟩
set_option maxHeartbeats 1000000 in
theorem szShip_any (x0 : ByteArray) (x1 : Int) (x2 : Int) (x3 : Int) (x4 : Int) (x5 : Bool) (left : Int) (w : World) (hs : x0.size ≤ maxLen) (hl0 : 0 ≤ left) (hl1 : left ≤ 1048576) :
    Calls Try.prog 26 #[.agg #[.string x0, .int .i64 x1, .int .i64 x2, .int .i64 x3, .int .i64 x4, .bool x5], .int .i64 left] w fun e w' => ∃ r : Int, e = .returned (.int .i64 r) ∧ (0 ≤ r → r ≤ left ∧ (x0.size : Int) ≤ left) ∧ r ≤ 1048576 ∧ Below w.heap.size w w' := by
  unfold maxLen at hs
  by_cases hl : left < (x0.size : Int)
  · go_enter Try.func26, Try.ntmps26
    go_wp2
    go_ret
    exact ⟨-1, rfl, by omega, by omega, (by repeat (first | exact Below.refl _ _ | assumption | refine Below.setCell ?_ (by first | omega | (simp <;> omega)) _ | refine Below.alloc ?_ (by first | omega | (simp <;> omega)) _ | refine below_drewN ?_ _ | refine Below.drew ?_ | refine Below.trans ?_ (Below.mono (by assumption) (by first | omega | (simp <;> omega)))))⟩
  · go_enter Try.func26, Try.ntmps26
    go_wp2
    go_ret
    exact ⟨left - (x0.size : Int), rfl, by omega, by omega, (by repeat (first | exact Below.refl _ _ | assumption | refine Below.setCell ?_ (by first | omega | (simp <;> omega)) _ | refine Below.alloc ?_ (by first | omega | (simp <;> omega)) _ | refine below_drewN ?_ _ | refine Below.drew ?_ | refine Below.trans ?_ (Below.mono (by assumption) (by first | omega | (simp <;> omega)))))⟩
def ShipD.mk' (k : Int) : ShipD := ⟨(markT (k)), (k + 1), (k + 1 + 1), (k + 1 + 1 + 1), (k + 1 + 1 + 1 + 1), (((k + 1 + 1 + 1 + 1 + 1) % 3) == 0)⟩
end Go.Proofs.Ytpbcbdjjpkenjaa

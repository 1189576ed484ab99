/- Passages as the laws' helpers handle them: conversion, comparison, marks. No condition. -/
import Derived.Test.YtpbcbdjjpkenjaaGreatFix
namespace Go.Proofs.YtpbcbdjjpkenjaaGreat
open Go.RowKit
set_option linter.unusedVariables false

structure PassageD where
  ship : Int
  segment : Int
  toward : Bool
  start : Int
  fin : Int

theorem PassageD.ext_iff' (x y : PassageD) : (x.ship = y.ship ∧ x.segment = y.segment ∧ x.toward = y.toward ∧ x.start = y.start ∧ x.fin = y.fin) ↔ x = y := by
  cases x; cases y; simp
instance : DecidableEq PassageD := fun x y => decidable_of_iff _ (PassageD.ext_iff' x y)
def PassageD.eqB (x y : PassageD) : Bool := decide (x = y)
instance : Inhabited PassageD := ⟨⟨0, 0, false, 0, 0⟩⟩
def PassageD.enc (x : PassageD) : List Value := [.int .i64 x.ship, .int .i64 x.segment, .bool x.toward, .int .i64 x.start, .int .i64 x.fin]
theorem PassageD.enc_len (x : PassageD) : x.enc.length = 5 := rfl
abbrev PassageD.val (x : PassageD) : Value := .agg #[.int .i64 x.ship, .int .i64 x.segment, .bool x.toward, .int .i64 x.start, .int .i64 x.fin]
/-- its numbers are int64s, its texts have a length that an int holds -/
def PassageD.ok (x : PassageD) : Prop := (Lit.int .i64 x.ship).wf = true ∧ (Lit.int .i64 x.segment).wf = true ∧ (Lit.int .i64 x.start).wf = true ∧ (Lit.int .i64 x.fin).wf = true
abbrev RdPassage (w : World) (v : Value) (xs : List PassageD) : Prop := Rd w 5 PassageD.enc v xs
section
open Go.ChangeShapes Go.WideShapes Go.Deep
set_option maxRecDepth 100000 in
theorem openPassage {H : Type} {enc : TypeId × Value → H} {W : World} {r : Reach} {b0 : Nat} {v : Value} {d : DataW H} {p : List MemPlace} (hv : Value.okWide Tryz.prog W r b0 62 v)
    (h : DataW.Trod enc Tryz.prog W 0 (fun _ => true) true 62 v d p) : ∃ x : PassageD, v = x.val ∧ x.ok := by
  obtain ⟨cs, rfl, hl, hf⟩ := open_struct Tryz.underlying62 (by kernel_rfl) (by kernel_rfl) hv h
  obtain ⟨c0, c1, c2, c3, c4, rfl⟩ := list5 hl
  obtain ⟨u0, y0, m0, g0, hy0⟩ := hf 0 _ rfl
  have g0 := Option.some.inj g0; subst g0
  obtain ⟨a0, e0, -, w0⟩ := DataW.trod_int Tryz.underlying3 hy0
  simp only [List.cons.injEq, and_true] at e0; subst e0
  obtain ⟨u1, y1, m1, g1, hy1⟩ := hf 1 _ rfl
  have g1 := Option.some.inj g1; subst g1
  obtain ⟨a1, e1, -, w1⟩ := DataW.trod_int Tryz.underlying3 hy1
  simp only [List.cons.injEq, and_true] at e1; subst e1
  obtain ⟨u2, y2, m2, g2, hy2⟩ := hf 2 _ rfl
  have g2 := Option.some.inj g2; subst g2
  obtain ⟨a2, e2, -⟩ := DataW.trod_bool Tryz.underlying4 hy2
  simp only [List.cons.injEq, and_true] at e2; subst e2
  obtain ⟨u3, y3, m3, g3, hy3⟩ := hf 3 _ rfl
  have g3 := Option.some.inj g3; subst g3
  obtain ⟨a3, e3, -, w3⟩ := DataW.trod_int Tryz.underlying3 hy3
  simp only [List.cons.injEq, and_true] at e3; subst e3
  obtain ⟨u4, y4, m4, g4, hy4⟩ := hf 4 _ rfl
  have g4 := Option.some.inj g4; subst g4
  obtain ⟨a4, e4, -, w4⟩ := DataW.trod_int Tryz.underlying3 hy4
  simp only [List.cons.injEq, and_true] at e4; subst e4
  exact ⟨⟨a0, a1, a2, a3, a4⟩, rfl, ⟨w0, w1, w3, w4⟩⟩
end
set_option maxHeartbeats 1000000 in
theorem toPassage_any (x0 : Int) (x1 : Int) (x2 : Bool) (x3 : Int) (x4 : Int) (w : World) :
    Calls Tryz.prog 25 #[.agg #[.int .i64 x0, .int .i64 x1, .bool x2, .int .i64 x3, .int .i64 x4]] w fun e w' => e = .returned (.agg #[.int .i64 x0, .int .i64 x1, .bool x2, .int .i64 x3, .int .i64 x4]) ∧ Below w.heap.size w w' := by
  go_enter Tryz.func25, Tryz.ntmps25
  go_wp2_with fail
  exact bodyPost_ret (v := .agg #[.int .i64 x0, .int .i64 x1, .bool x2, .int .i64 x3, .int .i64 x4]) (by simp [results, Tryz.results25, go_sem]) rfl ⟨rfl, (by repeat (first | exact Below.refl _ _ | assumption | refine Below.setCell ?_ (by first | omega | (simp <;> omega)) _ | refine Below.alloc ?_ (by first | omega | (simp <;> omega)) _ | refine below_drewN ?_ _ | refine Below.drew ?_ | refine Below.trans ?_ (Below.mono (by assumption) (by first | omega | (simp <;> omega)))))⟩
def PassageD.mk' (k : Int) : PassageD := ⟨(k), (k + 1), (((k + 1 + 1) % 3) == 0), (k + 1 + 1 + 1), (k + 1 + 1 + 1 + 1)⟩
end Go.Proofs.YtpbcbdjjpkenjaaGreat

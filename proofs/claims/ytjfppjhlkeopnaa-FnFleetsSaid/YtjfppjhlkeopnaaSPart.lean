/- Parts as the laws' helpers handle them: conversion, comparison, marks. No condition. -/
import Derived.Test.YtjfppjhlkeopnaaFix
namespace Go.Proofs.Ytjfppjhlkeopnaa
open Go.RowKit
set_option linter.unusedVariables false

structure PartD where
  amp : Int
  period : Int
  phase : Int

theorem PartD.ext_iff' (x y : PartD) : (x.amp = y.amp ∧ x.period = y.period ∧ x.phase = y.phase) ↔ x = y := by
  cases x; cases y; simp
instance : DecidableEq PartD := fun x y => decidable_of_iff _ (PartD.ext_iff' x y)
def PartD.eqB (x y : PartD) : Bool := decide (x = y)
instance : Inhabited PartD := ⟨⟨0, 0, 0⟩⟩
def PartD.enc (x : PartD) : List Value := [.int .i64 x.amp, .int .i64 x.period, .int .i64 x.phase]
theorem PartD.enc_len (x : PartD) : x.enc.length = 3 := rfl
abbrev PartD.val (x : PartD) : Value := .agg #[.int .i64 x.amp, .int .i64 x.period, .int .i64 x.phase]
/-- its numbers are int64s, its texts have a length that an int holds -/
def PartD.ok (x : PartD) : Prop := (Lit.int .i64 x.amp).wf = true ∧ (Lit.int .i64 x.period).wf = true ∧ (Lit.int .i64 x.phase).wf = true
abbrev RdPart (w : World) (v : Value) (xs : List PartD) : Prop := Rd w 3 PartD.enc v xs
theorem part_info : (Try.prog.info? 155).map (fun i => (i.zero, i.size, i.bytes)) = some (some (.agg #[.int .i64 0, .int .i64 0, .int .i64 0]), 3, 24) := by kernel_rfl
def PartD.mk' (k : Int) : PartD := ⟨(k), (k + 1), (k + 1 + 1)⟩
end Go.Proofs.Ytjfppjhlkeopnaa

/- Surges as the laws' helpers handle them: conversion, comparison, marks. No condition. -/
import Derived.Test.YtjfppjhlkeopnaaFix
namespace Go.Proofs.Ytjfppjhlkeopnaa
open Go.RowKit
set_option linter.unusedVariables false

structure SurgeD where
  start : Int
  low : Int
  high : Int

theorem SurgeD.ext_iff' (x y : SurgeD) : (x.start = y.start ∧ x.low = y.low ∧ x.high = y.high) ↔ x = y := by
  cases x; cases y; simp
instance : DecidableEq SurgeD := fun x y => decidable_of_iff _ (SurgeD.ext_iff' x y)
def SurgeD.eqB (x y : SurgeD) : Bool := decide (x = y)
instance : Inhabited SurgeD := ⟨⟨0, 0, 0⟩⟩
def SurgeD.enc (x : SurgeD) : List Value := [.int .i64 x.start, .int .i64 x.low, .int .i64 x.high]
theorem SurgeD.enc_len (x : SurgeD) : x.enc.length = 3 := rfl
abbrev SurgeD.val (x : SurgeD) : Value := .agg #[.int .i64 x.start, .int .i64 x.low, .int .i64 x.high]
/-- its numbers are int64s, its texts have a length that an int holds -/
def SurgeD.ok (x : SurgeD) : Prop := (Lit.int .i64 x.start).wf = true ∧ (Lit.int .i64 x.low).wf = true ∧ (Lit.int .i64 x.high).wf = true
abbrev RdSurge (w : World) (v : Value) (xs : List SurgeD) : Prop := Rd w 3 SurgeD.enc v xs
theorem surge_info : (Try.prog.info? 147).map (fun i => (i.zero, i.size, i.bytes)) = some (some (.agg #[.int .i64 0, .int .i64 0, .int .i64 0]), 3, 24) := by kernel_rfl
def SurgeD.mk' (k : Int) : SurgeD := ⟨(k), (k + 1), (k + 1 + 1)⟩
end Go.Proofs.Ytjfppjhlkeopnaa

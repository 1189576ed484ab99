/- Segments as the laws' helpers handle them: conversion, comparison, marks. No condition. -/
import Derived.Test.YtjfppjhlkeopnaaFix
namespace Go.Proofs.Ytjfppjhlkeopnaa
open Go.RowKit
set_option linter.unusedVariables false

structure SegmentD where
  a : Int
  b : Int
  depth : Int
  minutes : Int
  meet : Bool

theorem SegmentD.ext_iff' (x y : SegmentD) : (x.a = y.a ∧ x.b = y.b ∧ x.depth = y.depth ∧ x.minutes = y.minutes ∧ x.meet = y.meet) ↔ x = y := by
  cases x; cases y; simp
instance : DecidableEq SegmentD := fun x y => decidable_of_iff _ (SegmentD.ext_iff' x y)
def SegmentD.eqB (x y : SegmentD) : Bool := decide (x = y)
instance : Inhabited SegmentD := ⟨⟨0, 0, 0, 0, false⟩⟩
def SegmentD.enc (x : SegmentD) : List Value := [.int .i64 x.a, .int .i64 x.b, .int .i64 x.depth, .int .i64 x.minutes, .bool x.meet]
theorem SegmentD.enc_len (x : SegmentD) : x.enc.length = 5 := rfl
abbrev SegmentD.val (x : SegmentD) : Value := .agg #[.int .i64 x.a, .int .i64 x.b, .int .i64 x.depth, .int .i64 x.minutes, .bool x.meet]
/-- its numbers are int64s, its texts have a length that an int holds -/
def SegmentD.ok (x : SegmentD) : Prop := (Lit.int .i64 x.a).wf = true ∧ (Lit.int .i64 x.b).wf = true ∧ (Lit.int .i64 x.depth).wf = true ∧ (Lit.int .i64 x.minutes).wf = true
abbrev RdSegment (w : World) (v : Value) (xs : List SegmentD) : Prop := Rd w 5 SegmentD.enc v xs
theorem segment_info : (Try.prog.info? 151).map (fun i => (i.zero, i.size, i.bytes)) = some (some (.agg #[.int .i64 0, .int .i64 0, .int .i64 0, .int .i64 0, .bool false]), 5, 40) := by kernel_rfl
def SegmentD.mk' (k : Int) : SegmentD := ⟨(k), (k + 1), (k + 1 + 1), (k + 1 + 1 + 1), (((k + 1 + 1 + 1 + 1) % 3) == 0)⟩
end Go.Proofs.Ytjfppjhlkeopnaa

/- Points as the laws' helpers handle them: conversion, comparison, marks. No condition. -/
import Derived.Test.YtjfppjhlkeopnaaFix
import Derived.Test.YtjfppjhlkeopnaaText
namespace Go.Proofs.Ytjfppjhlkeopnaa
open Go.RowKit
set_option linter.unusedVariables false

structure PointD where
  name : ByteArray
  wait : Bool

theorem PointD.ext_iff' (x y : PointD) : (x.name = y.name ∧ x.wait = y.wait) ↔ x = y := by
  cases x; cases y; simp
instance : DecidableEq PointD := fun x y => decidable_of_iff _ (PointD.ext_iff' x y)
def PointD.eqB (x y : PointD) : Bool := decide (x = y)
instance : Inhabited PointD := ⟨⟨ByteArray.empty, false⟩⟩
def PointD.enc (x : PointD) : List Value := [.string x.name, .bool x.wait]
theorem PointD.enc_len (x : PointD) : x.enc.length = 2 := rfl
abbrev PointD.val (x : PointD) : Value := .agg #[.string x.name, .bool x.wait]
/-- its numbers are int64s, its texts have a length that an int holds -/
def PointD.ok (x : PointD) : Prop := x.name.size ≤ maxLen
theorem PointD.ok_size {x : PointD} (h : x.ok) : x.name.size ≤ maxLen := h
abbrev RdPoint (w : World) (v : Value) (xs : List PointD) : Prop := Rd w 2 PointD.enc v xs
theorem point_info : (Try.prog.info? 149).map (fun i => (i.zero, i.size, i.bytes)) = some (some (.agg #[.string ByteArray.empty, .bool false]), 2, 24) := by kernel_rfl
def PointD.mk' (k : Int) : PointD := ⟨(markT (k)), (((k + 1) % 3) == 0)⟩
end Go.Proofs.Ytjfppjhlkeopnaa

/- Charts as the laws' helpers handle them: conversion, comparison, size, opening. No condition. -/
import Derived.Test.YtjfppjhlkeopnaaChart
namespace Go.Proofs.Ytjfppjhlkeopnaa
open Go.RowKit
set_option linter.unusedVariables false
theorem RdChart.below {w w' : World} {v1 v2 : Value} {c : ChartD} (h : RdChart w w.heap.size v1 v2 c) (hb : Below w.heap.size w w') : RdChart w' w'.heap.size v1 v2 c := (h.keep hb (Nat.le_refl _)).mono hb.size
end Go.Proofs.Ytjfppjhlkeopnaa

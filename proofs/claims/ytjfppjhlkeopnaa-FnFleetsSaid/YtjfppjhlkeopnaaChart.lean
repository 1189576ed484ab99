/- Charts: points found by name, whether a chart is valid; conversion, comparison. No condition. -/
import Derived.Test.YtjfppjhlkeopnaaKeep
import Derived.Test.YtjfppjhlkeopnaaName
import Derived.Test.YtjfppjhlkeopnaaSeq
import Derived.Test.YtjfppjhlkeopnaaSPoint
import Derived.Test.YtjfppjhlkeopnaaSSegment
import Derived.BigGuardPart
namespace Go.Proofs.Ytjfppjhlkeopnaa
open Go.RowKit
set_option linter.unusedVariables false

structure ChartD where
  points : List PointD
  segs : List SegmentD
def ptName (name : ByteArray) (xs : List PointD) (j : Nat) : Bool := decide ((xs.getD j default).name = name)
def pointNamed (xs : List PointD) (name : ByteArray) : Int := firstUpTo (ptName name xs) xs.length
def ptRow (xs : List PointD) (i : Nat) : Bool := isName (xs.getD i default).name && decide (pointNamed xs (xs.getD i default).name = i)
def joins (s : SegmentD) (a b : Int) : Bool := (decide (s.a = a) && decide (s.b = b)) || (decide (s.a = b) && decide (s.b = a))
def segFit (n : Int) (s : SegmentD) : Bool := inB s.a 0 n && inB s.b 0 n && !decide (s.a = s.b) && inB s.depth 0 3000 && inB s.minutes 1 240
def notJoin (ss : List SegmentD) (s : SegmentD) (j : Nat) : Bool := !joins (ss.getD j default) s.a s.b
def segRow (n : Int) (ss : List SegmentD) (i : Nat) : Bool := segFit n (ss.getD i default) && allUpTo (notJoin ss (ss.getD i default)) i
def chartOk (c : ChartD) : Bool := decide (c.points.length ≤ 8) && decide (c.segs.length ≤ 10) && allUpTo (ptRow c.points) c.points.length && allUpTo (segRow ((c.points.length : Int) - 1) c.segs) c.segs.length
def RdChart (w : World) (B : Nat) (v1 v2 : Value) (c : ChartD) : Prop := RdB w B 2 PointD.enc v1 c.points ∧ RdB w B 5 SegmentD.enc v2 c.segs
theorem RdChart.keep {w w' : World} {B B' : Nat} {v1 v2 : Value} {c : ChartD} (h : RdChart w B v1 v2 c) (hb : Below B' w w') (hB : B ≤ B') : RdChart w' B v1 v2 c := ⟨h.1.keep hb hB, h.2.keep hb hB⟩
theorem RdChart.mono {w : World} {B B' : Nat} {v1 v2 : Value} {c : ChartD} (h : RdChart w B v1 v2 c) (hB : B ≤ B') : RdChart w B' v1 v2 c := ⟨h.1.mono hB, h.2.mono hB⟩
theorem chart_seg {c : ChartD} (h : chartOk c = true) {k : Nat} (hk : k < c.segs.length) : 0 ≤ c.segs[k].a ∧ c.segs[k].a < c.points.length ∧ 0 ≤ c.segs[k].b ∧ c.segs[k].b < c.points.length ∧ c.segs[k].a ≠ c.segs[k].b ∧ 0 ≤ c.segs[k].depth ∧ c.segs[k].depth ≤ 3000 ∧ 1 ≤ c.segs[k].minutes ∧ c.segs[k].minutes ≤ 240 := by
  unfold chartOk at h
  simp only [Bool.and_eq_true] at h
  have := allUpTo_iff.1 h.2 k hk
  unfold segRow at this
  rw [getD_at hk] at this
  simp only [Bool.and_eq_true] at this
  have := this.1
  simp [segFit, inB] at this
  omega
theorem chart_len {c : ChartD} (h : chartOk c = true) : c.points.length ≤ 8 ∧ c.segs.length ≤ 10 := by
  unfold chartOk at h; simp only [Bool.and_eq_true, decide_eq_true_eq] at h; exact h.1.1
end Go.Proofs.Ytjfppjhlkeopnaa

/- Drawn charts are valid. No condition. -/
import Derived.Test.YtpbcbdjjpkenjaaChDraw
namespace Go.Proofs.Ytpbcbdjjpkenjaa
open Go.RowKit
set_option linter.unusedVariables false
theorem allUpTo_S (f : Nat → Bool) (k : Nat) : allUpTo f (k + 1) = (allUpTo f k && f k) := by unfold allUpTo; rw [List.range_succ, List.all_append]; simp
theorem pts_ok (b : Bool) : allUpTo (ptRow (basePts b)) 4 = true ∧ allUpTo (ptRow (basePts b ++ [dockPt])) 5 = true := by
  cases b <;> exact ⟨by kernel_rfl, by kernel_rfl⟩
theorem pts_size (b : Bool) : (∀ x ∈ basePts b, x.name.size ≤ maxLen) ∧ ∀ x ∈ basePts b ++ [dockPt], x.name.size ≤ maxLen := by
  constructor
  · intro x hx
    simp only [basePts, List.mem_cons, List.not_mem_nil, or_false] at hx
    rcases hx with rfl | rfl | rfl | rfl <;> (unfold maxLen; simp [ByteArray.size])
  · intro x hx
    simp only [basePts, dockPt, List.cons_append, List.nil_append, List.mem_cons, List.not_mem_nil, or_false] at hx
    rcases hx with rfl | rfl | rfl | rfl | rfl <;> (unfold maxLen; simp [ByteArray.size])
theorem ChartIs.parts {c : ChartD} (h : ChartIs c) : chartOk c = true ∧ (∀ x ∈ c.points, x.name.size ≤ maxLen) ∧ (3 ≤ c.segs.length ∧ c.segs.length ≤ 5) ∧ (4 ≤ c.points.length ∧ c.points.length ≤ 5) := by
  obtain ⟨pts, segs⟩ := c
  obtain ⟨b, xe, xa, xb, xc, xd, xf, xg, segs0, ⟨⟨a0, a1⟩, ⟨b0, b1⟩, ⟨c0, c1⟩, ⟨d0, d1⟩, ⟨f0, f1⟩, ⟨g0, g1⟩⟩, hs, hd⟩ := h
  simp only at hd
  have key : ∀ (n : Int) (ss : List SegmentD), (∀ i (h : i < ss.length), segRow n ss i = true) → allUpTo (segRow n ss) ss.length = true := fun n ss h => allUpTo_iff.2 fun k hk => h k hk
  rcases hs with rfl | ⟨d, m, hd0, hd1, hm0, hm1, rfl⟩ <;> rcases hd with ⟨rfl, rfl⟩ | ⟨e, he0, he1, rfl, rfl⟩
  all_goals
    refine ⟨?_, ?_, ?_, ?_⟩
    · unfold chartOk
      simp only [Bool.and_eq_true, decide_eq_true_eq]
      refine ⟨⟨⟨by simp [basePts], by simp [baseSegs]⟩, ?_⟩, ?_⟩
      · first | exact (pts_ok b).1 | exact (pts_ok b).2
      · refine key _ _ fun i hi => ?_
        simp only [baseSegs, List.cons_append, List.nil_append, List.length_cons, List.length_nil] at hi
        rcases i with _ | _ | _ | _ | _ | i
        all_goals first
          | (exfalso; omega)
          | (simp [segRow, segFit, notJoin, joins, inB, baseSegs, basePts, dockPt, allUpTo_S, allUpTo_zero, List.getD]; omega)
          | (simp [segRow, segFit, notJoin, joins, inB, baseSegs, basePts, dockPt, allUpTo_S, allUpTo_zero, List.getD]; done)
    · first | exact (pts_size b).1 | exact (pts_size b).2
    · simp [baseSegs]
    · simp [basePts]
end Go.Proofs.Ytpbcbdjjpkenjaa

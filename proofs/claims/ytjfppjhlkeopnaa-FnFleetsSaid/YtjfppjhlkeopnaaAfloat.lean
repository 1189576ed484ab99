/- Ships on segments: minutes, levels. No condition. -/
import Derived.Test.YtjfppjhlkeopnaaChart
import Derived.Test.YtjfppjhlkeopnaaChartL
import Derived.Test.YtjfppjhlkeopnaaNeed
namespace Go.Proofs.Ytjfppjhlkeopnaa
open Go.RowKit
set_option linter.unusedVariables false

def need (s : ShipD) : Int := s.draught + squat s + 50
def segAt (c : ChartD) (k : Int) : SegmentD := c.segs.getD k.toNat default
def shipMinutes (g : SegmentD) (s : ShipD) : Int := if s.slow = true then 2 * g.minutes else g.minutes
def onSeg (c : ChartD) (k : Int) (s : ShipD) : Bool := chartOk c && shipOk s && inB k 0 ((c.segs.length : Int) - 1)
def minutesOn (c : ChartD) (k : Int) (s : ShipD) : Int := if onSeg c k s = true then shipMinutes (segAt c k) s else 0
def levelFor (c : ChartD) (k : Int) (s : ShipD) : Int := if onSeg c k s = true then need s - (segAt c k).depth else 0
def isAfloat (c : ChartD) (k : Int) (s : ShipD) (l : Int) : Bool := onSeg c k s && decide (levelFor c k s ≤ l)
theorem segAt_nat {c : ChartD} {a : Nat} (h : a < c.segs.length) : segAt c (a : Int) = c.segs[a] := by unfold segAt; rw [Int.toNat_natCast, getD_at h]
theorem idx_nat {n : Int} {m : Nat} (h : inB n 0 ((m : Int) - 1) = true) : ∃ a : Nat, n = a ∧ a < m := by simp [inB] at h; exact ⟨n.toNat, by omega, by omega⟩
theorem onSeg_iff {c : ChartD} {k : Int} {s : ShipD} (h : onSeg c k s = true) : chartOk c = true ∧ shipOk s = true ∧ ∃ a : Nat, k = a ∧ a < c.segs.length := by
  unfold onSeg at h; simp only [Bool.and_eq_true] at h; exact ⟨h.1.1, h.1.2, idx_nat h.2⟩
theorem shipMinutes_range {g : SegmentD} {s : ShipD} (h0 : 1 ≤ g.minutes) (h1 : g.minutes ≤ 240) : 1 ≤ shipMinutes g s ∧ shipMinutes g s ≤ 480 := by unfold shipMinutes; split <;> omega
theorem need_range {s : ShipD} (h : shipOk s = true) : 152 ≤ need s ∧ need s ≤ 2150 := by
  have h1 := shipOk_of h; have h2 := squat_range h; unfold need; omega
theorem calls_int {P : Program} {f : FuncId} {args : Array Value} {w : World} {R : World → Prop} {b c : Int} (h : Calls P f args w fun e w' => e = .returned (.int .i64 b) ∧ R w') (hb : b = c) : Calls P f args w fun e w' => e = .returned (.int .i64 c) ∧ R w' := hb ▸ h
end Go.Proofs.Ytjfppjhlkeopnaa

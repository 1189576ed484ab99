/- Minutes of routes, arrivals. No condition. -/
import Derived.Test.YtpbcbdjjpkenjaaGreatAfloat
import Derived.Test.YtpbcbdjjpkenjaaGreatInts
namespace Go.Proofs.YtpbcbdjjpkenjaaGreat
open Go.RowKit
set_option linter.unusedVariables false

def segIn (c : ChartD) (r : List Int) (i : Nat) : Bool := inB (r.getD i default) 0 ((c.segs.length : Int) - 1)
def minSum (c : ChartD) (r : List Int) : Nat → Int
  | 0 => 0
  | k + 1 => minSum c r k + (segAt c (r.getD k default)).minutes
def routeMin (c : ChartD) (r : List Int) : Int := if chartOk c = true ∧ allUpTo (segIn c r) r.length = true then minSum c r r.length else -1
theorem minSum_range {c : ChartD} (hc : chartOk c = true) {r : List Int} : ∀ {k : Nat}, allUpTo (segIn c r) k = true → 0 ≤ minSum c r k ∧ minSum c r k ≤ 240 * k
  | 0, _ => by simp [minSum]
  | k + 1, h => by
    have h1 := allUpTo_iff.1 h k (by omega)
    have h2 := minSum_range hc (r := r) (k := k) (allUpTo_iff.2 fun j hj => allUpTo_iff.1 h j (by omega))
    unfold segIn at h1
    obtain ⟨a, ha, ha2⟩ := idx_nat h1
    obtain ⟨-, -, -, -, -, -, -, q1, q2⟩ := chart_seg hc ha2
    rw [minSum, ha, segAt_nat ha2]; omega
theorem routeMin_neg {c : ChartD} {r : List Int} (h : (chartOk c && allUpTo (segIn c r) r.length) = false) : routeMin c r = -1 := by
  unfold routeMin; rw [if_neg]; intro e; simp [e.1, e.2] at h
theorem routeMin_pos {c : ChartD} {r : List Int} (h1 : chartOk c = true) (h2 : allUpTo (segIn c r) r.length = true) : routeMin c r = minSum c r r.length := by
  unfold routeMin; rw [if_pos ⟨h1, h2⟩]
theorem routeMin_iff {c : ChartD} {r : List Int} (h : 0 ≤ routeMin c r) : chartOk c = true ∧ allUpTo (segIn c r) r.length = true := by
  unfold routeMin at h; split at h
  · assumption
  · omega
def arrivalOk (c : ChartD) (s : ShipD) (r st : List Int) : Bool := decide (0 ≤ routeMin c r) && shipOk s && decide (r.length = st.length) && !decide (r.length = 0)
def arrivalOf (c : ChartD) (s : ShipD) (r st : List Int) : Int :=
  if arrivalOk c s r st = true then (if inB (st.getD (st.length - 1) default) 0 2880 = true then st.getD (st.length - 1) default + shipMinutes (segAt c (r.getD (r.length - 1) default)) s else -1) else -1
end Go.Proofs.YtpbcbdjjpkenjaaGreat

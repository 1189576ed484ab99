/- A call of a Go function as one step of a region that draws its order; the cursor's calls so spelled. No condition. -/
import Derived.Test.YtpbcbdjjpkenjaaGreatDraw
import Derived.Deep.RegionLaw
namespace Go.Proofs.YtpbcbdjjpkenjaaGreat
open Go.RowKit
set_option linter.unusedVariables false
theorem step_call {P : Program} {ops : Array Oper} {o : Oper} {a : Act} {w : World} {K : Act → World → Prop} {Q : Exit → Act → World → Prop} {E : Prop} (hgd : o.guard = none) {f : FuncId} {args : Array Value}
    (he : (execOp a.eval o).run P w = .ok (.enter f args) w) {R : Value → World → Prop} (hc : Calls P f args w fun e w' => ∃ v, e = .returned v ∧ R v w') (h : ∀ v w', R v w' → K (a.put o.dst v) w') :
    if Region.wanted o (yielded ops a.tmps) = true then Oper.wp P o a w K Q else E := by
  have hw : Region.wanted o (yielded ops a.tmps) = true := by simp [Region.wanted, hgd]
  rw [if_pos hw]
  unfold Oper.wp
  rw [he]
  simp only [Oper.upon]
  refine hc.mono ?_
  rintro e w' ⟨v, rfl, hR⟩
  exact h v w' hR
end Go.Proofs.YtpbcbdjjpkenjaaGreat

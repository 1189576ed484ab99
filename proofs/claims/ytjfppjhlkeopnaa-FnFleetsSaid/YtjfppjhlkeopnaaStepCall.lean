/- A call of a Go function as one step of a region that draws its order; the cursor's calls so spelled. No condition. -/
import Derived.Test.YtjfppjhlkeopnaaDraw
import Derived.Deep.RegionLaw
namespace Go.Proofs.Ytjfppjhlkeopnaa
open Go.RowKit
set_option linter.unusedVariables false
theorem step_call {P : Program} {ops : Array Oper} {o : Oper} {a : Act} {w : World} {K : Act → World → Prop} {Q : Exit → Act → World → Prop} {E : Prop} (hgd : o.guard = none) {f : FuncId} {args : Array Value}
    (he : (execOp a.eval o).run P w = .ok (.enter f args) w) {R : Value → World → Prop} (hc : Calls P f args w fun e w' => ∃ v, e = .returned v ∧ R v w') (h : ∀ v w', R v w' → K (a.put o.dst v) w') :
    if Region.wanted o (yielded ops a.tmps) = true then Oper.wp P o a w K Q else E := by
  have hw : Region.wanted o (yielded ops a.tmps) = true := by simp [Region.wanted, hgd]
  rw [if_pos hw]
  unfold Oper.wp
  rw [he]
  simp only [Oper.upon]
  refine hc.mono ?_
  rintro e w' ⟨v, rfl, hR⟩
  exact h v w' hR
theorem l01Below_v (B g : Nat) (v : Value) (bs : List Int) (n : Int) (w : World) (h : Cur w B g v bs) (hn : n ≤ 9223372036854775807) (h0 : 0 < n) :
    Calls Try.prog 98 #[.pointer (some ⟨g, 0, none⟩), .int .i64 n] w fun e w' => ∃ u, e = .returned u ∧ (∃ x : Int, u = .int .i64 x ∧ 0 ≤ x ∧ x < n ∧ Cur w' B g v bs ∧ CurW g w w') := by
  refine (l01Below_any B g v bs n w h hn).mono ?_
  rintro e w' ⟨x, rfl, x0, -, -, x1, hc, hw⟩
  exact ⟨_, rfl, x, rfl, x0, x1 h0, hc, hw⟩
end Go.Proofs.Ytjfppjhlkeopnaa

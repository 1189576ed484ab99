/- Steps through a region that draws its order, one by one, also past operations whose guard does not hold. No condition. -/
import Derived.Test.YtpbcbdjjpkenjaaUntil
import Derived.Deep.RegionHeld3
namespace Go.Proofs.Ytpbcbdjjpkenjaa
open Go.RowKit
set_option linter.unusedVariables false
section
variable {P : Program} {md : Region.Mode} {ops : Array Oper} {Q : Exit → Act → World → Prop} {S : World → Prop}
theorem anyH_takeD {i : Nat} {oi : Oper} {rest : List Oper} {v : Value} {n : Nat} {l : Array Bool} {a : Act} {w : World} (hd : ops.toList.drop i = oi :: rest)
    (hs : Region.noSelect ops = true) (hf : Region.free md ops l i = true) (hr : (Region.ready md ops l).contains i = true)
    (hQ : ∀ c a w, Q (.panic c) (a.put oi.dst v) w → Q (.panic c) a w) (hy : YieldsIf P ops S oi v a) (hS : S w)
    (h : wpAnyH P md ops Q S n (l.setIfInBounds i true) (a.put oi.dst v) w) : wpAnyH P md ops Q S (n + 1) l a w :=
  wpAnyH_take (by rw [← Array.getElem?_toList]; exact drop_at hd) hs hf hr hQ hy hS h
theorem anyH_oneD {i : Nat} {o : Oper} {rest : List Oper} {n : Nat} {l : Array Bool} {a : Act} {w : World} (hr : Region.ready md ops l = [i]) (hd : ops.toList.drop i = o :: rest)
    (hw : Region.wanted o (yielded ops a.tmps) = true)
    (h : ∀ K : Act → World → Prop, Shut (∀ a' w', S w' → (S w' → wpAnyH P md ops Q S n (l.setIfInBounds i true) a' w') → K a' w') → Oper.wp P o a w K Q) : wpAnyH P md ops Q S (n + 1) l a w :=
  wpAnyH_ready hr (by simp) (AllReadyH.cons (by rw [← Array.getElem?_toList]; exact drop_at hd) (fun K hK => by rw [if_pos hw]; exact h K hK) AllReadyH.nil)
end
end Go.Proofs.Ytpbcbdjjpkenjaa

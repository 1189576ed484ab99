/- A region that draws its order and ends in a store that waits for all else: what the others read holds until then. No condition. -/
import Derived.Test.YtjfppjhlkeopnaaStepCall
import Derived.Deep.RegionHeld
namespace Go.Proofs.Ytjfppjhlkeopnaa
open Go.RowKit
set_option linter.unusedVariables false
section
variable {P : Program} {ops : Array Oper} {Q : Exit → Act → World → Prop} {md : Region.Mode} {S : World → Prop} {z : Nat}
/-- Whatever order is picked from here on; S holds behind every operation but z. -/
def untilR (P : Program) (md : Region.Mode) (ops : Array Oper) (Q : Exit → Act → World → Prop) (S : World → Prop) (z : Nat) : Nat → Array Bool → Act → World → Prop
  | 0, l, a, w => Region.ready md ops l = [] ∧ Q .normal a w
  | n + 1, l, a, w => (Region.ready md ops l = [] → Q .normal a w) ∧ ∀ i ∈ Region.ready md ops l, wpOp P ops Q i (fun a' w' => (i ≠ z → S w') ∧ untilR P md ops Q S z n (l.setIfInBounds i true) a' w') a w
theorem untilR.any : ∀ (n : Nat) (l : Array Bool) (a : Act) (w : World), untilR P md ops Q S z n l a w → wpAny P md ops Q n l a w
  | 0, _, _, _, h => h
  | n + 1, _, _, _, h => ⟨h.1, fun i hi => wpOp_mono (fun a' w' k => untilR.any n _ a' w' k.2) (h.2 i hi)⟩
theorem untilR.first {i : Nat} {oi oz : Oper} {v : Value} (hi : ops[i]? = some oi) (hz : ops[z]? = some oz) (hez : ∃ e ∈ oz.after, Region.binds md e = true ∧ e.on = i) (hsel : ∀ (j : Nat) (o : Oper) cs b, ops[j]? = some o → o.op ≠ .select cs b)
    (hQ : ∀ c a w, Q (.panic c) (a.put oi.dst v) w → Q (.panic c) a w) :
    ∀ (n : Nat) (l : Array Bool) (a : Act) (w : World),
      (∀ j oj, ops[j]? = some oj → j ≠ i → l.getD j true = false → (∀ e ∈ oj.after, Region.binds md e = true → e.on ≠ i) → oi.apart ops oj = true) →
      i ∈ Region.ready md ops l → YieldsIf P ops S oi v a → S w → untilR P md ops Q S z n (l.setIfInBounds i true) (a.put oi.dst v) w → untilR P md ops Q S z (n + 1) l a w := by
  intro n
  induction n with
  | zero =>
    intro l a w _ hr hy hS H
    constructor
    · intro h; rw [h] at hr; cases hr
    · intro j hj
      by_cases hji : j = i
      · rw [hji]; exact hy.wpOp hi hS ⟨fun _ => hS, H⟩
      · have h0 := ready_mono hj hji
        rw [H.1] at h0; cases h0
  | succ n ih =>
    intro l a w hap hr hy hS H
    constructor
    · intro h; rw [h] at hr; cases hr
    · intro j hj
      by_cases hji : j = i
      · rw [hji]; exact hy.wpOp hi hS ⟨fun _ => hS, H⟩
      · obtain ⟨hju, oj, hoj, hall⟩ := mem_ready.1 hj
        have hui := (mem_ready.1 hr).1
        have hno : ∀ e ∈ oj.after, Region.binds md e = true → e.on ≠ i := by
          intro e he hb heq
          have h1 := hall e he hb
          rw [heq] at h1
          by_cases hlt : i < l.size
          · simp [hlt] at hui h1; rw [hui] at h1; cases h1
          · simp [Array.getElem?_eq_none (Nat.le_of_not_lt hlt)] at h1
        have hjz : j ≠ z := by
          intro e
          subst e
          rw [hoj] at hz
          cases hz
          obtain ⟨e, he, hb, hon⟩ := hez
          exact hno e he hb hon
        have h2 := wpOp_putIf hoj (hap j oj hoj hji hju hno) (fun cs b => hsel i oi cs b hi) (fun cs b => hsel j oj cs b hoj) hQ hy (H.2 j (ready_mono hj hji))
        refine wpOp_mono ?_ h2
        rintro a' w' ⟨h3, h4, h5⟩
        refine ⟨fun _ => h4 hjz, ih _ a' w' ?_ (ready_mono hr (Ne.symm hji)) h3 (h4 hjz) ?_⟩
        · intro k ok hk hki hun hko
          refine hap k ok hk hki ?_ hko
          by_cases hjk : j = k
          · rw [← hjk]; exact hju
          · rw [getD_set_ne true hjk] at hun; exact hun
        · rw [Array.setIfInBounds_comm _ _ hji]; exact h5
/-- take number i first -/
theorem untilR.take {i : Nat} {oi : Oper} {v : Value} {n : Nat} {l : Array Bool} {a : Act} {w : World} (hi : ops[i]? = some oi)
    (hz : (match ops[z]? with | some oz => oz.after.any fun e => Region.binds md e && (e.on == i) | none => false) = true)
    (hs : Region.noSelect ops = true) (hf : Region.free md ops l i = true) (hr : (Region.ready md ops l).contains i = true)
    (hQ : ∀ c a w, Q (.panic c) (a.put oi.dst v) w → Q (.panic c) a w) (hy : YieldsIf P ops S oi v a) (hS : S w)
    (h : untilR P md ops Q S z n (l.setIfInBounds i true) (a.put oi.dst v) w) : untilR P md ops Q S z (n + 1) l a w := by
  cases e : ops[z]? with
  | none => rw [e] at hz; cases hz
  | some oz =>
    rw [e] at hz
    obtain ⟨j, hj, hb⟩ := Array.any_eq_true.1 hz
    simp only [Bool.and_eq_true, beq_iff_eq] at hb
    exact untilR.first hi e ⟨_, Array.getElem_mem hj, hb.1, hb.2⟩ (Region.noSelect_spec hs) hQ n l a w (Region.free_spec hi hf) (by simpa using hr) hy hS h
/-- the one operation that may come up -/
theorem untilR.one {i : Nat} {o : Oper} {n : Nat} {l : Array Bool} {a : Act} {w : World} (hr : Region.ready md ops l = [i]) (ho : ops[i]? = some o) (hg : o.guard = none)
    (h : ∀ K : Act → World → Prop, Shut (∀ a' w', (i ≠ z → S w') → untilR P md ops Q S z n (l.setIfInBounds i true) a' w' → K a' w') → Oper.wp P o a w K Q) : untilR P md ops Q S z (n + 1) l a w := by
  refine ⟨(fun h0 => by rw [hr] at h0; cases h0), fun j hj => ?_⟩
  rw [hr] at hj
  obtain rfl : j = i := by simpa using hj
  have hw : Region.wanted o (yielded ops a.tmps) = true := by simp [Region.wanted, hg]
  unfold wpOp
  rw [ho]
  simp only [hw, if_true]
  exact .inl (h _ (fun a' w' h1 h2 => ⟨h1, h2⟩))
theorem drop_at {α : Type} {l r : List α} {i : Nat} {x : α} (h : l.drop i = x :: r) : l[i]? = some x := by
  have := congrArg (fun q => q[0]?) h
  simpa using this
theorem untilR.takeD {i : Nat} {oi : Oper} {rest : List Oper} {v : Value} {n : Nat} {l : Array Bool} {a : Act} {w : World} (hd : ops.toList.drop i = oi :: rest)
    (hz : (match ops[z]? with | some oz => oz.after.any fun e => Region.binds md e && (e.on == i) | none => false) = true)
    (hs : Region.noSelect ops = true) (hf : Region.free md ops l i = true) (hr : (Region.ready md ops l).contains i = true)
    (hQ : ∀ c a w, Q (.panic c) (a.put oi.dst v) w → Q (.panic c) a w) (hy : YieldsIf P ops S oi v a) (hS : S w)
    (h : untilR P md ops Q S z n (l.setIfInBounds i true) (a.put oi.dst v) w) : untilR P md ops Q S z (n + 1) l a w :=
  untilR.take (by rw [← Array.getElem?_toList]; exact drop_at hd) hz hs hf hr hQ hy hS h
theorem untilR.oneD {i : Nat} {o : Oper} {rest : List Oper} {n : Nat} {l : Array Bool} {a : Act} {w : World} (hr : Region.ready md ops l = [i]) (hd : ops.toList.drop i = o :: rest) (hg : o.guard = none)
    (h : ∀ K : Act → World → Prop, Shut (∀ a' w', (i ≠ z → S w') → untilR P md ops Q S z n (l.setIfInBounds i true) a' w' → K a' w') → Oper.wp P o a w K Q) : untilR P md ops Q S z (n + 1) l a w :=
  untilR.one hr (by rw [← Array.getElem?_toList]; exact drop_at hd) hg h
theorem untilR.done {l : Array Bool} {a : Act} {w : World} (hr : Region.ready md ops l = []) (h : Q .normal a w) : ∀ n, untilR P md ops Q S z n l a w
  | 0 => ⟨hr, h⟩
  | _ + 1 => ⟨fun _ => h, by rw [hr]; simp⟩
theorem wp_region_until {id : Nat} {a : Act} {w : World} (z : Nat) (S : World → Prop) (hm : P.follows .mixedOrders = true)
    (h : untilR P .any ops Q S z ops.size (Array.replicate ops.size false) a w.drew) : (Code.region id ops true).wp P Q a w :=
  wp_region_any hm (untilR.any _ _ _ _ h)
theorem calls_v {P : Program} {f : FuncId} {args : Array Value} {w : World} {v : Value} {R : World → Prop} (h : Calls P f args w fun e w' => e = .returned v ∧ R w') : Calls P f args w fun e w' => ∃ u, e = .returned u ∧ (u = v ∧ R w') :=
  h.mono fun e w' hh => ⟨v, hh.1, rfl, hh.2⟩
theorem wp_call {o : Oper} {a : Act} {w : World} {K : Act → World → Prop} {f : FuncId} {args : Array Value}
    (he : (execOp a.eval o).run P w = .ok (.enter f args) w) {R : Value → World → Prop} (hc : Calls P f args w fun e w' => ∃ v, e = .returned v ∧ R v w') (h : ∀ v w', R v w' → K (a.put o.dst v) w') : Oper.wp P o a w K Q := by
  unfold Oper.wp
  rw [he]
  simp only [Oper.upon]
  refine hc.mono ?_
  rintro e w' ⟨v, rfl, hR⟩
  exact h v w' hR
end
end Go.Proofs.Ytjfppjhlkeopnaa

/- append onto a row of the call's own, where the rows of the source are of one-cell values. No condition. -/
import Derived.Test.YtpbcbdjjpkenjaaGreatApp
namespace Go.Proofs.YtpbcbdjjpkenjaaGreat
open Go.RowKit
set_option linter.unusedVariables false
section
variable {P : Program} (w : World)
theorem wp_append_in {α : Type} {enc : α → List Value} {sz : Nat} (he : ∀ x, (enc x).length = sz) {o : Oper} {a : Act} {K : Act → World → Prop} {Q : Exit → Act → World → Prop} (s x : Operand) (t : TypeId)
    (ho : o.op = .call { callee := .builtin .append, args := #[s, x], argTypes := #[t, t] })
    (base : Nat) (e : TypeId) (i : TypeInfo) (z : Value) (bytes : Nat) (ht : P.underlying t = some (.slice e)) (hi : P.info? e = some i) (hz : i.zero = some z)
    (hsize : i.size = sz) (hby : i.bytes = bytes) (hzs : z.cells.size = sz) (hsz : 0 < sz)
    (v : Value) (xs : List α) (hs : a.eval s = v) (hown : Own w base e sz enc v xs)
    (B : Nat) (v2 : Value) (ys : List α) (hx : a.eval x = v2) (hr : RdB w B sz enc v2 ys) (hone : ∀ x ∈ ys, ∀ u ∈ enc x, u.oneCell' = true)
    (h63 : xs.length + ys.length ≤ maxLen) (hbytes : (xs.length + ys.length) * bytes ≤ 140737488355328) (hbase : base ≤ w.heap.size)
    (h : ∀ v' w', Own w' base e sz enc v' (xs ++ ys) → w.grownBy w' v.ownBlock → (v'.ownBlock = v.ownBlock ∨ v'.ownBlock = some w.heap.size) → K (a.put o.dst v') w') : o.wp P a w K Q := by
  obtain ⟨A, c, rfl, hc, hm, hcell⟩ := hr
  have key : ∃ v' w', (Builtin.append_ #[t, t] o.type #[v, .slice A ys.length c]).run P w = .ok v' w' ∧ Own w' base e sz enc v' (xs ++ ys) ∧ w.grownBy w' v.ownBlock ∧ (v'.ownBlock = v.ownBlock ∨ v'.ownBlock = some w.heap.size) := by
    rcases Nat.eq_zero_or_pos ys.length with h0 | h0
    · have hy : ys = [] := List.eq_nil_of_length_eq_zero h0
      subst hy
      rcases A with _ | ad
      · exact ⟨v, w, run_append_of_nil w base t o.type e i sz ht hi v _ _ hown c, by simpa [Own] using hown, World.grownBy.refl w _, .inl rfl⟩
      · obtain ⟨v', w', hrun, h2, h3, _, h5⟩ := run_append_own_at (P := P) w base t o.type e i z sz bytes ht hi hz hsize hby hzs hsz v _ _ hown ad 0 c [] (by simp) (by intro j u hu; simp at hu) (by simp) h63 hbytes hbase
        exact ⟨v', w', hrun, by simpa [Own] using h2, h3, h5⟩
    · obtain ⟨b, off, rfl, hlt, hcell⟩ := hcell h0
      obtain ⟨v', w', hrun, h2, h3, _, h5⟩ := run_append_own_at (P := P) w base t o.type e i z sz bytes ht hi hz hsize hby hzs hsz v _ _ hown ⟨b, off, none⟩ ys.length c (ys.flatMap enc)
        (flatMap_len he ys)
        (by
          intro j u hu
          obtain ⟨y, hy, hj⟩ := row_at he hsz ys j u hu
          have := hcell (j / sz) y hy (j % sz) u hj
          have e1 : off + j / sz * sz + j % sz = off + j := by have := Nat.div_add_mod' j sz; omega
          rw [e1] at this
          by_cases hj0 : j = 0
          · subst hj0; simpa [Addr.add] using this
          · simpa [Addr.add, hj0] using this)
        (by intro u hu; obtain ⟨y, hm0, hy⟩ := List.mem_flatMap.1 hu; exact hone y hm0 u hy) h63 hbytes hbase
      exact ⟨v', w', hrun, by unfold Own; rw [List.length_append, List.flatMap_append]; exact h2, h3, h5⟩
  obtain ⟨v', w', hrun, h2, h3, h4⟩ := key
  unfold Oper.wp execOp
  simp only [ho, resolve, invoke, builtin, Sem.run_bind, Sem.run_pure, Result.andThen_ok, List.map_toArray, List.map_cons, List.map_nil, hs, hx, hrun]
  exact h v' w' h2 h3 h4

theorem wpList_append_in {α : Type} {enc : α → List Value} {sz : Nat} (he : ∀ x, (enc x).length = sz) {ops : Array Oper} {rest : List Oper} {o : Oper} {a : Act} {Q : Exit → Act → World → Prop} (hgd : o.guard = none) (s x : Operand) (t : TypeId)
    (ho : o.op = .call { callee := .builtin .append, args := #[s, x], argTypes := #[t, t] })
    (base : Nat) (e : TypeId) (i : TypeInfo) (z : Value) (bytes : Nat) (ht : P.underlying t = some (.slice e)) (hi : P.info? e = some i) (hz : i.zero = some z)
    (hsize : i.size = sz) (hby : i.bytes = bytes) (hzs : z.cells.size = sz) (hsz : 0 < sz)
    (v : Value) (xs : List α) (hs : a.eval s = v) (hown : Own w base e sz enc v xs)
    (B : Nat) (v2 : Value) (ys : List α) (hx : a.eval x = v2) (hr : RdB w B sz enc v2 ys) (hone : ∀ x ∈ ys, ∀ u ∈ enc x, u.oneCell' = true)
    (h63 : xs.length + ys.length ≤ maxLen) (hbytes : (xs.length + ys.length) * bytes ≤ 140737488355328) (hbase : base ≤ w.heap.size)
    (h : ∀ v' w', Own w' base e sz enc v' (xs ++ ys) → w.grownBy w' v.ownBlock → (v'.ownBlock = v.ownBlock ∨ v'.ownBlock = some w.heap.size) → wpList P ops Q rest (a.put o.dst v') w') : wpList P ops Q (o :: rest) a w :=
  wpList_plain hgd fun _ hK => wp_append_in w he s x t ho base e i z bytes ht hi hz hsize hby hzs hsz v xs hs hown B v2 ys hx hr hone h63 hbytes hbase fun v' w' h2 h3 h4 => hK _ _ (h v' w' h2 h3 h4)
theorem step_append_in {α : Type} {enc : α → List Value} {sz : Nat} (he : ∀ x, (enc x).length = sz) {ops : Array Oper} {o : Oper} {a : Act} {K : Act → World → Prop} {Q : Exit → Act → World → Prop} {E : Prop} (hgd : o.guard = none) (s x : Operand) (t : TypeId)
    (ho : o.op = .call { callee := .builtin .append, args := #[s, x], argTypes := #[t, t] })
    (base : Nat) (e : TypeId) (i : TypeInfo) (z : Value) (bytes : Nat) (ht : P.underlying t = some (.slice e)) (hi : P.info? e = some i) (hz : i.zero = some z)
    (hsize : i.size = sz) (hby : i.bytes = bytes) (hzs : z.cells.size = sz) (hsz : 0 < sz)
    (v : Value) (xs : List α) (hs : a.eval s = v) (hown : Own w base e sz enc v xs)
    (B : Nat) (v2 : Value) (ys : List α) (hx : a.eval x = v2) (hr : RdB w B sz enc v2 ys) (hone : ∀ x ∈ ys, ∀ u ∈ enc x, u.oneCell' = true)
    (h63 : xs.length + ys.length ≤ maxLen) (hbytes : (xs.length + ys.length) * bytes ≤ 140737488355328) (hbase : base ≤ w.heap.size)
    (h : ∀ v' w', Own w' base e sz enc v' (xs ++ ys) → w.grownBy w' v.ownBlock → (v'.ownBlock = v.ownBlock ∨ v'.ownBlock = some w.heap.size) → K (a.put o.dst v') w') :
    if Region.wanted o (yielded ops a.tmps) = true then Oper.wp P o a w K Q else E := by
  have hw : Region.wanted o (yielded ops a.tmps) = true := by simp [Region.wanted, hgd]
  rw [if_pos hw]
  exact wp_append_in w he s x t ho base e i z bytes ht hi hz hsize hby hzs hsz v xs hs hown B v2 ys hx hr hone h63 hbytes hbase h
end
end Go.Proofs.YtpbcbdjjpkenjaaGreat

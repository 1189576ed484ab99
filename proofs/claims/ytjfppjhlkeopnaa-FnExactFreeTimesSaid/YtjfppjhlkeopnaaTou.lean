/- Calls that turn only some blocks of the old memory. No condition. -/
import Derived.Test.YtjfppjhlkeopnaaMem
namespace Go.Proofs.Ytjfppjhlkeopnaa
open Go.RowKit
set_option linter.unusedVariables false

/-- of the old memory, only blocks from lo on and below hi may have turned -/
structure Tou (lo hi : Nat) (w w' : World) : Prop where
  os : w'.os = w.os
  tape : w'.tape = w.tape
  output : w'.output = w.output
  size : w.heap.size ≤ w'.heap.size
  block : ∀ k, k < w.heap.size → (k < lo ∨ hi ≤ k) → w'.heap[k]? = w.heap[k]?
theorem Tou.refl (lo hi : Nat) (w : World) : Tou lo hi w w := ⟨rfl, rfl, rfl, Nat.le_refl _, fun _ _ _ => rfl⟩
theorem Tou.trans {lo hi : Nat} {a b c : World} (h : Tou lo hi a b) (k : Tou lo hi b c) : Tou lo hi a c :=
  ⟨k.os.trans h.os, k.tape.trans h.tape, k.output.trans h.output, Nat.le_trans h.size k.size, fun i hi hh => (k.block i (Nat.lt_of_lt_of_le hi h.size) hh).trans (h.block i hi hh)⟩
theorem Tou.below {lo hi : Nat} {w w' : World} (h : Tou lo hi w w') (hlo : lo ≤ w.heap.size) : Below lo w w' :=
  ⟨h.os, h.tape, h.output, h.size, fun k hk => h.block k (Nat.lt_of_lt_of_le hk hlo) (.inl hk)⟩
theorem Tou.grown {lo hi : Nat} {w w' : World} {r : Option Nat} (hg : w.grownBy w' r) (hr : ∀ k, r = some k → lo ≤ k ∧ k < hi) : Tou lo hi w w' :=
  ⟨hg.os, hg.tape, hg.output, hg.size, fun k hk hh => hg.block k hk (fun e => by have := hr k e.symm; omega)⟩
theorem Tou.own {α : Type} {lo hi base sz : Nat} {T : TypeId} {enc : α → List Value} {w w' : World} {v : Value} {xs : List α} (h : Own w base T sz enc v xs) (ht : Tou lo hi w w') (hv : ∀ g, v.ownBlock = some g → hi ≤ g) : Own w' base T sz enc v xs := by
  obtain ⟨hl, h⟩ := h
  refine ⟨hl, ?_⟩
  rcases h with h | ⟨g, cap, cur, rfl, hb, hh, r⟩
  · exact .inl h
  · exact .inr ⟨g, cap, cur, rfl, hb, (ht.block g (Array.getElem?_eq_some_iff.1 hh).1 (.inr (hv g rfl))).trans hh, r⟩
theorem OwnB.tou {α : Type} {lo hi lo' hi' sz : Nat} {T : TypeId} {enc : α → List Value} {w w' : World} {v : Value} {xs : List α} (h : OwnB w lo hi T sz enc v xs) (ht : Tou lo' hi' w w') (hd : hi ≤ lo' ∨ hi' ≤ lo) : OwnB w' lo hi T sz enc v xs := by
  refine ⟨?_, h.2⟩
  obtain ⟨⟨hl, h1⟩, h2⟩ := h
  refine ⟨hl, ?_⟩
  rcases h1 with h1 | ⟨g, cap, cur, rfl, hb, hh, r⟩
  · exact .inl h1
  · have := h2 g rfl
    exact .inr ⟨g, cap, cur, rfl, hb, (ht.block g (Array.getElem?_eq_some_iff.1 hh).1 (by rcases hd with h | h; exact .inl (by omega); exact .inr (by omega))).trans hh, r⟩
end Go.Proofs.Ytjfppjhlkeopnaa

/- Slices that read as lists of rows of cells. No condition. -/
import Derived.Test.YtjfppjhlkeopnaaBase
namespace Go.Proofs.Ytjfppjhlkeopnaa
open Go.RowKit
set_option linter.unusedVariables false

/-- The slice value 'v' reads as the rows 'xs' in 'w' and lies below block B: row i lies in 'sz' cells, which hold 'enc x'. -/
def RdB {α : Type} (w : World) (B : Nat) (sz : Nat) (enc : α → List Value) (v : Value) (xs : List α) : Prop :=
  ∃ A c, v = .slice A xs.length c ∧ xs.length ≤ c ∧ c ≤ maxLen ∧
    (0 < xs.length → ∃ b off, A = some ⟨b, off, none⟩ ∧ b < B ∧ ∀ i x, xs[i]? = some x → ∀ j u, (enc x)[j]? = some u → w.cell? ⟨b, off + i * sz + j, none⟩ = some u)
abbrev Rd {α : Type} (w : World) (sz : Nat) (enc : α → List Value) (v : Value) (xs : List α) : Prop := RdB w w.heap.size sz enc v xs

theorem RdB.below {α : Type} {w w' : World} {B sz : Nat} {enc : α → List Value} {v : Value} {xs : List α} (h : RdB w B sz enc v xs) (hb : Below B w w') : RdB w' B sz enc v xs := by
  obtain ⟨A, c, rfl, hc, hm, h⟩ := h
  refine ⟨A, c, rfl, hc, hm, fun h0 => ?_⟩
  obtain ⟨b, off, rfl, hlt, hcell⟩ := h h0
  exact ⟨b, off, rfl, hlt, fun i x hx j u hu => (hb.cell (p := ⟨b, _, none⟩) hlt).trans (hcell i x hx j u hu)⟩
theorem RdB.mono {α : Type} {w : World} {B B' sz : Nat} {enc : α → List Value} {v : Value} {xs : List α} (h : RdB w B sz enc v xs) (hB : B ≤ B') : RdB w B' sz enc v xs := by
  obtain ⟨A, c, rfl, hc, hm, h⟩ := h
  refine ⟨A, c, rfl, hc, hm, fun h0 => ?_⟩
  obtain ⟨b, off, rfl, hlt, hcell⟩ := h h0
  exact ⟨b, off, rfl, Nat.lt_of_lt_of_le hlt hB, hcell⟩
theorem Rd.below {α : Type} {w w' : World} {sz : Nat} {enc : α → List Value} {v : Value} {xs : List α} (h : Rd w sz enc v xs) (hb : Below w.heap.size w w') : Rd w' sz enc v xs :=
  (RdB.below h hb).mono hb.size
theorem RdB.keep {α : Type} {w w' : World} {B B' sz : Nat} {enc : α → List Value} {v : Value} {xs : List α} (h : RdB w B sz enc v xs) (hb : Below B' w w') (hB : B ≤ B') : RdB w' B sz enc v xs := h.below (hb.mono hB)
theorem RdB.nil_ {α : Type} {w : World} {B sz : Nat} {enc : α → List Value} : RdB w B sz enc (.slice none 0 0) ([] : List α) := ⟨none, 0, rfl, by simp, by simp, fun h => by simp at h⟩

/-- a slice of one element, just built -/
theorem rd_new {α : Type} {enc : α → List Value} {sz : Nat} (W : World) (x : α) (T : TypeId) : Rd (W.alloc (.cells ⟨enc x⟩ T)) sz enc (.slice (some ⟨W.heap.size, 0, none⟩) 1 1) [x] := by
  refine ⟨_, 1, rfl, Nat.le_refl _, by unfold maxLen; omega, fun _ => ⟨_, 0, rfl, by simp, fun i y hy j u hu => ?_⟩⟩
  have hi : i = 0 := by have := (List.getElem?_eq_some_iff.1 hy).1; simp at this; omega
  subst hi
  simp at hy; subst hy
  rw [World.cell?_alloc_at _ _ _ _ rfl]
  simpa using hu
theorem take_succ_eq {α : Type} {xs ys : List α} {k : Nat} (h : xs.take k = ys.take k) (h1 : k < xs.length) (h2 : k < ys.length) (he : xs[k] = ys[k]) : xs.take (k + 1) = ys.take (k + 1) := by
  rw [List.take_succ_eq_append_getElem h1, List.take_succ_eq_append_getElem h2, h, he]

abbrev encI : Int → List Value := fun n => [.int .i64 n]
theorem encI_len (n : Int) : (encI n).length = 1 := rfl
abbrev RdI (w : World) (v : Value) (xs : List Int) : Prop := Rd w 1 encI v xs


/-- A slice that the call itself made (from block 'base' on, elements of type 'T'), or nil, and that reads as 'xs'. -/
def Own {α : Type} (w : World) (base : Nat) (T : TypeId) (sz : Nat) (enc : α → List Value) (v : Value) (xs : List α) : Prop :=
  w.ownsRow base T sz v xs.length (xs.flatMap enc)

theorem flatMap_at {α : Type} {enc : α → List Value} {sz : Nat} (he : ∀ x, (enc x).length = sz) : ∀ (xs : List α) (i j : Nat) (x : α) (u : Value), xs[i]? = some x → (enc x)[j]? = some u → (xs.flatMap enc)[i * sz + j]? = some u := by
  intro xs
  induction xs with
  | nil => intro i j x u h; simp at h
  | cons y ys ih =>
    intro i j x u h hu
    have hj : j < sz := by rw [← he x]; exact (List.getElem?_eq_some_iff.1 hu).1
    cases i with
    | zero =>
      simp at h; subst h
      rw [List.flatMap_cons, List.getElem?_append_left (by rw [he]; omega)]
      simpa using hu
    | succ i =>
      simp at h
      rw [List.flatMap_cons, List.getElem?_append_right (by rw [he, Nat.succ_mul]; omega), he]
      have e : (i + 1) * sz + j - sz = i * sz + j := by rw [Nat.succ_mul]; omega
      rw [e]
      exact ih i j x u h hu

theorem Own.rd {α : Type} {w : World} {base sz : Nat} {T : TypeId} {enc : α → List Value} {v : Value} {xs : List α} (he : ∀ x, (enc x).length = sz) (h : Own w base T sz enc v xs) : Rd w sz enc v xs := by
  have h' := h
  obtain ⟨hl, h⟩ := h
  rcases h with ⟨rfl, h0⟩ | ⟨g, cap, cur, rfl, hg, hh, hnc, hm, hcs, ht⟩
  · exact ⟨none, 0, by simp [h0], by omega, by simp, fun h1 => by omega⟩
  · refine ⟨some ⟨g, 0, none⟩, cap, rfl, hnc, hm, fun h1 => ⟨g, 0, rfl, ?_, fun i x hx j u hu => ?_⟩⟩
    · rcases Nat.lt_or_ge g w.heap.size with h2 | h2
      · exact h2
      · rw [Array.getElem?_eq_none h2] at hh; cases hh
    · have hf := flatMap_at he xs i j x u hx hu
      have hlt : i * sz + j < xs.length * sz := by rw [← hl]; exact (List.getElem?_eq_some_iff.1 hf).1
      have := World.ownsRow.cellAt h' (i * sz + j) hlt
      rw [Nat.zero_add, this, hf]

theorem Own.below {α : Type} {w w' : World} {base sz : Nat} {T : TypeId} {enc : α → List Value} {v : Value} {xs : List α} (h : Own w base T sz enc v xs) (hb : Below w.heap.size w w') : Own w' base T sz enc v xs :=
  World.ownsRow.kept h (row := none) ⟨hb.os, hb.tape, hb.output, hb.size, fun k hk _ => hb.block k hk⟩ (by cases hv : v.ownBlock <;> simp)

theorem Own.mono {α : Type} {w : World} {base base' sz : Nat} {T : TypeId} {enc : α → List Value} {v : Value} {xs : List α} (h : Own w base T sz enc v xs) (hb : base' ≤ base) : Own w base' T sz enc v xs := by
  obtain ⟨hl, h⟩ := h
  refine ⟨hl, ?_⟩
  rcases h with h | ⟨g, cap, cur, hv, hg, r⟩
  · exact .inl h
  · exact .inr ⟨g, cap, cur, hv, Nat.le_trans hb hg, r⟩

/-- .. and its block lies below 'hi'. -/
def OwnB {α : Type} (w : World) (lo hi : Nat) (T : TypeId) (sz : Nat) (enc : α → List Value) (v : Value) (xs : List α) : Prop := Own w lo T sz enc v xs ∧ ∀ g, v.ownBlock = some g → g < hi
theorem Own.b {α : Type} {w : World} {base sz : Nat} {T : TypeId} {enc : α → List Value} {v : Value} {xs : List α} (h : Own w base T sz enc v xs) : OwnB w base w.heap.size T sz enc v xs :=
  ⟨h, fun g hg => (World.ownsRow.lt h g hg).2⟩
theorem OwnB.below {α : Type} {w w' : World} {lo hi B sz : Nat} {T : TypeId} {enc : α → List Value} {v : Value} {xs : List α} (h : OwnB w lo hi T sz enc v xs) (hb : Below B w w') (hB : hi ≤ B) : OwnB w' lo hi T sz enc v xs := by
  refine ⟨?_, h.2⟩
  obtain ⟨⟨hl, h1⟩, h2⟩ := h
  refine ⟨hl, ?_⟩
  rcases h1 with h1 | ⟨g, cap, cur, rfl, hg, hh, r⟩
  · exact .inl h1
  · exact .inr ⟨g, cap, cur, rfl, hg, (hb.block g (Nat.lt_of_lt_of_le (h2 g rfl) hB)).trans hh, r⟩
theorem OwnB.keep {α : Type} {w w' : World} {lo hi B sz : Nat} {T : TypeId} {enc : α → List Value} {v : Value} {xs : List α} (h : OwnB w lo hi T sz enc v xs) (hb : Below B w w') (hB : hi ≤ B) : OwnB w' lo hi T sz enc v xs := h.below hb hB
theorem OwnB.rdB {α : Type} {w : World} {lo hi sz : Nat} {T : TypeId} {enc : α → List Value} {v : Value} {xs : List α} (he : ∀ x, (enc x).length = sz) (h : OwnB w lo hi T sz enc v xs) : RdB w hi sz enc v xs := by
  obtain ⟨A, c, rfl, hc, hm, hr⟩ := Own.rd he h.1
  refine ⟨A, c, rfl, hc, hm, fun h0 => ?_⟩
  obtain ⟨b, off, rfl, hlt, hcell⟩ := hr h0
  exact ⟨b, off, rfl, h.2 b rfl, hcell⟩
/-- Behind a call that writes an own row alone: below that row nothing has turned. -/
theorem OwnB.touch {α : Type} {w w' : World} {lo hi sz : Nat} {T : TypeId} {enc : α → List Value} {v : Value} {xs : List α} (h : OwnB w lo hi T sz enc v xs) (hg : w.grownBy w' v.ownBlock) (hlo : lo ≤ w.heap.size) : Below lo w w' :=
  (Below.refl _ _).grown hg hlo (fun k hk => (World.ownsRow.lt h.1 k hk).1)
theorem OwnB.again {α β : Type} {w w' : World} {lo hi sz sz' : Nat} {T T' : TypeId} {enc : α → List Value} {enc' : β → List Value} {v : Value} {xs : List α} {ys : List β} (h : OwnB w lo hi T sz enc v xs) (h' : Own w' lo T' sz' enc' v ys) : OwnB w' lo hi T' sz' enc' v ys := ⟨h', h.2⟩

/-- Filling a row of the call's own in order: what is filled after k rows. -/
def Filled {α : Type} (w : World) (base : Nat) (T : TypeId) (sz : Nat) (enc : α → List Value) (g n : Nat) (ys : List α) : Prop :=
  ∃ cells, w.ownsRow base T sz (.slice (some ⟨g, 0, none⟩) n n) n cells ∧ cells.take (ys.length * sz) = ys.flatMap enc

def setRow (cs : List Value) (i : Nat) : List Value → List Value
  | [] => cs
  | u :: us => setRow (cs.set i u) (i + 1) us
def storeRow (w : World) (g i : Nat) : List Value → World
  | [] => w
  | u :: us => storeRow (w.setCell ⟨g, i, none⟩ u) g (i + 1) us

theorem setRow_take : ∀ (us cs : List Value) (i : Nat), i + us.length ≤ cs.length → (setRow cs i us).take (i + us.length) = cs.take i ++ us
  | [], cs, i, _ => by simp [setRow]
  | u :: us, cs, i, h => by
    simp only [List.length_cons] at h
    have hr := setRow_take us (cs.set i u) (i + 1) (by rw [List.length_set]; omega)
    rw [setRow, show i + (u :: us).length = i + 1 + us.length by simp; omega, hr]
    have h2 : (cs.set i u).take (i + 1) = cs.take i ++ [u] := by
      rw [List.take_succ_eq_append_getElem (by rw [List.length_set]; omega), List.take_set_of_le (by omega)]
      simp
    rw [h2]; simp

theorem ownsRow_storeRow {base : Nat} {T : TypeId} {sz g n cap : Nat} : ∀ (us : List Value) (w : World) (i : Nat) (cs : List Value), w.ownsRow base T sz (.slice (some ⟨g, 0, none⟩) n cap) n cs →
    (storeRow w g i us).ownsRow base T sz (.slice (some ⟨g, 0, none⟩) n cap) n (setRow cs i us)
  | [], w, i, cs, h => h
  | u :: us, w, i, cs, h => ownsRow_storeRow us _ (i + 1) _ (World.ownsRow.stored h i u).1

theorem below_storeRow {B g : Nat} (hB : B ≤ g) {w0 : World} : ∀ (us : List Value) (w : World) (i : Nat), Below B w0 w → Below B w0 (storeRow w g i us)
  | [], _, _, h => h
  | u :: us, w, i, h => below_storeRow hB us _ (i + 1) (h.setCell (p := ⟨g, i, none⟩) hB u)

theorem Filled.next {α : Type} {w : World} {base : Nat} {T : TypeId} {sz : Nat} {enc : α → List Value} {g n : Nat} {ys : List α} (he : ∀ x, (enc x).length = sz) (h : Filled w base T sz enc g n ys) (hn : ys.length < n) (y : α) :
    Filled (storeRow w g (ys.length * sz) (enc y)) base T sz enc g n (ys ++ [y]) := by
  obtain ⟨cs, h1, h2⟩ := h
  have hb : (ys.length + 1) * sz ≤ n * sz := Nat.mul_le_mul_right sz hn
  rw [Nat.succ_mul] at hb
  refine ⟨setRow cs (ys.length * sz) (enc y), ownsRow_storeRow _ _ _ _ h1, ?_⟩
  have := setRow_take (enc y) cs (ys.length * sz) (by rw [he, h1.1]; omega)
  rw [he] at this
  rw [List.length_append, List.length_singleton, Nat.succ_mul, this, h2]
  simp

theorem Filled.own {α : Type} {w : World} {base : Nat} {T : TypeId} {sz : Nat} {enc : α → List Value} {g n : Nat} {ys : List α} (h : Filled w base T sz enc g n ys) (hn : ys.length = n) : Own w base T sz enc (.slice (some ⟨g, 0, none⟩) n n) ys := by
  obtain ⟨cs, h1, h2⟩ := h
  subst hn
  have : cs = ys.flatMap enc := by rw [← h2, List.take_of_length_le (by rw [h1.1]; omega)]
  unfold Own
  rw [← this]; exact h1

theorem Filled.cell {α : Type} {w : World} {base : Nat} {T : TypeId} {sz : Nat} {enc : α → List Value} {g n : Nat} {ys : List α} (h : Filled w base T sz enc g n ys) {j : Nat} (hj : j < n * sz) :
    (∃ u, w.cell? ⟨g, j, none⟩ = some u) ∧ w.frozen? ⟨g, j, none⟩ = false := by
  obtain ⟨cs, h1, h2⟩ := h
  refine ⟨⟨cs[j]'(by rw [h1.1]; exact hj), ?_⟩, World.ownsRow.frozenAt h1 j⟩
  rw [World.ownsRow.cellAt h1 j hj]
  exact List.getElem?_eq_getElem _

theorem Filled.below {α : Type} {w w' : World} {base : Nat} {T : TypeId} {sz : Nat} {enc : α → List Value} {g n : Nat} {ys : List α} (h : Filled w base T sz enc g n ys) (hb : Below w.heap.size w w') : Filled w' base T sz enc g n ys := by
  obtain ⟨cs, h1, h2⟩ := h
  exact ⟨cs, World.ownsRow.kept h1 (row := none) ⟨hb.os, hb.tape, hb.output, hb.size, fun k hk _ => hb.block k hk⟩ (by simp [Value.ownBlock]), h2⟩
theorem Filled.start {α : Type} {w : World} {base : Nat} {T : TypeId} {sz : Nat} {enc : α → List Value} {g n : Nat} {cs : List Value} (h : w.ownsRow base T sz (.slice (some ⟨g, 0, none⟩) n n) n cs) : Filled w base T sz enc g n [] := ⟨cs, h, by simp⟩
theorem Filled.lt {α : Type} {w : World} {base : Nat} {T : TypeId} {sz : Nat} {enc : α → List Value} {g n : Nat} {ys : List α} (h : Filled w base T sz enc g n ys) : base ≤ g ∧ g < w.heap.size := by
  obtain ⟨cs, h1, h2⟩ := h
  exact World.ownsRow.lt h1 g rfl

theorem Own.setFar {α : Type} {w : World} {base sz : Nat} {T : TypeId} {enc : α → List Value} {v : Value} {xs : List α} (h : Own w base T sz enc v xs) {p : Addr} (hp : v.ownBlock ≠ some p.block) (u : Value) : Own (w.setCell p u) base T sz enc v xs :=
  World.ownsRow.kept h (row := some p.block) ⟨rfl, rfl, rfl, by simp [World.setCell], fun k hk hne => Below.heap_setCell w p u k (fun e => hne (by rw [e]))⟩ (.inr hp)
theorem OwnB.setFar {α : Type} {w : World} {lo hi sz : Nat} {T : TypeId} {enc : α → List Value} {v : Value} {xs : List α} (h : OwnB w lo hi T sz enc v xs) {p : Addr} (hp : p.block < lo) (u : Value) : OwnB (w.setCell p u) lo hi T sz enc v xs :=
  ⟨h.1.setFar (fun e => by have := (World.ownsRow.lt h.1 _ e).1; omega) u, h.2⟩
theorem OwnB.storeFar {α : Type} {lo hi sz g : Nat} {T : TypeId} {enc : α → List Value} {v : Value} {xs : List α} (hg : g < lo) : ∀ (us : List Value) (w : World) (i : Nat), OwnB w lo hi T sz enc v xs → OwnB (storeRow w g i us) lo hi T sz enc v xs
  | [], _, _, h => h
  | u :: us, w, i, h => OwnB.storeFar hg us _ (i + 1) (h.setFar (p := ⟨g, i, none⟩) hg u)
theorem storeRow_size {g : Nat} : ∀ (us : List Value) (w : World) (i : Nat), (storeRow w g i us).heap.size = w.heap.size
  | [], _, _ => rfl
  | u :: us, w, i => by rw [storeRow, storeRow_size us]; simp [World.setCell]
theorem OwnB.up {α : Type} {w : World} {lo hi hi' sz : Nat} {T : TypeId} {enc : α → List Value} {v : Value} {xs : List α} (h : OwnB w lo hi T sz enc v xs) (hh : hi ≤ hi') : OwnB w lo hi' T sz enc v xs := ⟨h.1, fun g hg => Nat.lt_of_lt_of_le (h.2 g hg) hh⟩
theorem ret_int {k : IntKind} {a b : Int} (h : a = b) : Ending.returned (.int k a) = .returned (.int k b) := by rw [h]
/-! ### plain words for loops -/
def allUpTo (f : Nat → Bool) (k : Nat) : Bool := (List.range k).all f
theorem allUpTo_zero (f : Nat → Bool) : allUpTo f 0 = true := rfl
theorem allUpTo_succ {f : Nat → Bool} {k : Nat} (h : allUpTo f k = true) (h1 : f k = true) : allUpTo f (k + 1) = true := by
  unfold allUpTo at *; rw [List.range_succ, List.all_append, h]; simp [h1]
theorem allUpTo_bad {f : Nat → Bool} {n k : Nat} (hk : k < n) (h : f k = false) : allUpTo f n = false := by
  unfold allUpTo; rw [List.all_eq_false]; exact ⟨k, by simpa using hk, by simp [h]⟩
theorem allUpTo_iff {f : Nat → Bool} {n : Nat} : allUpTo f n = true ↔ ∀ k, k < n → f k = true := by
  unfold allUpTo; simp
theorem allUpTo_congr {f g : Nat → Bool} {n : Nat} (h : ∀ k, k < n → f k = g k) : allUpTo f n = allUpTo g n := by
  rw [Bool.eq_iff_iff, allUpTo_iff, allUpTo_iff]
  exact ⟨fun h1 k hk => by rw [← h k hk]; exact h1 k hk, fun h1 k hk => by rw [h k hk]; exact h1 k hk⟩
theorem allUpTo_false {f : Nat → Bool} {n : Nat} (h : allUpTo f n = false) : ∃ k, k < n ∧ f k = false := by
  unfold allUpTo at h; rw [List.all_eq_false] at h
  obtain ⟨k, hk, h⟩ := h
  exact ⟨k, by simpa using hk, by simpa using h⟩
theorem none_succ {f : Nat → Bool} {k : Nat} (h : ∀ j, j < k → f j = false) (h1 : f k = false) : ∀ j, j < k + 1 → f j = false := fun j hj => by
  rcases Nat.lt_succ_iff_lt_or_eq.1 hj with h2 | h2
  · exact h j h2
  · subst h2; exact h1
/-- the least i < n with f i, or -1 -/
def firstUpTo (f : Nat → Bool) : Nat → Int
  | 0 => -1
  | n + 1 => if firstUpTo f n < 0 then (if f n then (n : Int) else -1) else firstUpTo f n
theorem firstUpTo_none {f : Nat → Bool} : ∀ {n : Nat}, (∀ k, k < n → f k = false) → firstUpTo f n = -1
  | 0, _ => rfl
  | n + 1, h => by rw [firstUpTo, firstUpTo_none (fun k hk => h k (by omega)), h n (by omega)]; simp
theorem firstUpTo_hit {f : Nat → Bool} {k : Nat} (h : ∀ j, j < k → f j = false) (hk : f k = true) : ∀ {n : Nat}, k < n → firstUpTo f n = k
  | 0, h1 => by omega
  | n + 1, h1 => by
    rw [firstUpTo]
    by_cases e : k = n
    · subst e; rw [firstUpTo_none h, hk]; simp
    · rw [firstUpTo_hit h hk (n := n) (by omega)]; rw [if_neg (by omega)]
theorem firstUpTo_range (f : Nat → Bool) : ∀ n : Nat, -1 ≤ firstUpTo f n ∧ firstUpTo f n < n
  | 0 => by simp [firstUpTo]
  | n + 1 => by
    have h := firstUpTo_range f n
    rw [firstUpTo]
    split
    · split <;> omega
    · omega
theorem firstUpTo_spec {f : Nat → Bool} : ∀ {n : Nat} {k : Nat}, firstUpTo f n = k → k < n ∧ f k = true ∧ ∀ j, j < k → f j = false
  | 0, k, h => by simp [firstUpTo] at h
  | n + 1, k, h => by
    rw [firstUpTo] at h
    split at h
    · rename_i h1
      split at h
      · rename_i h2
        have e : k = n := by omega
        subst e
        refine ⟨by omega, h2, fun j hj => ?_⟩
        cases hf : f j with
        | false => rfl
        | true =>
          exfalso
          have hex : ∃ i, i < k ∧ f i = true ∧ ∀ m, m < i → f m = false := by
            clear h h1 h2
            induction j using Nat.strongRecOn with
            | _ j ih =>
              by_cases hm : ∃ m, m < j ∧ f m = true
              · obtain ⟨m, hm1, hm2⟩ := hm; exact ih m hm1 (by omega) hm2
              · exact ⟨j, hj, hf, fun m hm' => by cases hfm : f m with | false => rfl | true => exact absurd ⟨m, hm', hfm⟩ hm⟩
          obtain ⟨i, hi, hfi, hl⟩ := hex
          have := firstUpTo_hit hl hfi hi
          omega
      · omega
    · obtain ⟨a, b, c⟩ := firstUpTo_spec h
      exact ⟨by omega, b, c⟩
theorem firstUpTo_congr {f g : Nat → Bool} : ∀ {n : Nat}, (∀ k, k < n → f k = g k) → firstUpTo f n = firstUpTo g n
  | 0, _ => rfl
  | n + 1, h => by rw [firstUpTo, firstUpTo, firstUpTo_congr (fun k hk => h k (by omega)), h n (by omega)]
theorem getD_at {α : Type} [Inhabited α] {xs : List α} {k : Nat} (h : k < xs.length) : xs.getD k default = xs[k] := by simp [List.getD, h]

/-! ### rows written in place -/
theorem setRow_append_left : ∀ (us a b : List Value) (i : Nat), i + us.length ≤ a.length → setRow (a ++ b) i us = setRow a i us ++ b
  | [], a, b, i, _ => rfl
  | u :: us, a, b, i, h => by
    simp only [List.length_cons] at h
    rw [setRow, setRow, List.set_append_left _ _ (by omega), setRow_append_left us _ b (i + 1) (by rw [List.length_set]; omega)]
theorem setRow_append_right : ∀ (us a b : List Value) (i : Nat), setRow (a ++ b) (a.length + i) us = a ++ setRow b i us
  | [], a, b, i => rfl
  | u :: us, a, b, i => by
    rw [setRow, setRow, List.set_append_right _ _ (by omega), Nat.add_sub_cancel_left, Nat.add_assoc, setRow_append_right us a _ (i + 1)]
theorem setRow_all (us b : List Value) (h : b.length = us.length) : setRow b 0 us = us := by
  have := setRow_take us b 0 (by omega)
  rw [Nat.zero_add] at this
  have hl : ∀ (us cs : List Value) (i : Nat), (setRow cs i us).length = cs.length := by
    intro us; induction us with
    | nil => intro cs i; rfl
    | cons u us ih => intro cs i; rw [setRow, ih, List.length_set]
  rw [List.take_of_length_le (by rw [hl]; omega)] at this
  simpa using this
theorem setRow_flatMap {α : Type} {enc : α → List Value} {sz : Nat} (he : ∀ x, (enc x).length = sz) (y : α) : ∀ (xs : List α) (i : Nat), i < xs.length → setRow (xs.flatMap enc) (i * sz) (enc y) = (xs.set i y).flatMap enc
  | [], i, h => by simp at h
  | x :: xs, 0, _ => by
    rw [List.flatMap_cons, Nat.zero_mul, setRow_append_left _ _ _ _ (by rw [he, he]; omega), setRow_all _ _ (by rw [he, he])]
    simp
  | x :: xs, i + 1, h => by
    simp at h
    have e : (i + 1) * sz = (enc x).length + i * sz := by rw [he, Nat.succ_mul]; omega
    rw [List.flatMap_cons, e, setRow_append_right, setRow_flatMap he y xs i h]
    simp

theorem Own.setRow {α : Type} {w : World} {base sz g cap : Nat} {T : TypeId} {enc : α → List Value} {xs : List α} (he : ∀ x, (enc x).length = sz) (h : Own w base T sz enc (.slice (some ⟨g, 0, none⟩) xs.length cap) xs)
    {i : Nat} (hi : i < xs.length) (y : α) : Own (storeRow w g (i * sz) (enc y)) base T sz enc (.slice (some ⟨g, 0, none⟩) xs.length cap) (xs.set i y) := by
  have := ownsRow_storeRow (enc y) w (i * sz) _ h
  rw [setRow_flatMap he y xs i hi] at this
  unfold Own
  rw [List.length_set]
  exact this

theorem Own.cells {α : Type} {w : World} {base sz g cap : Nat} {T : TypeId} {enc : α → List Value} {xs : List α} (he : ∀ x, (enc x).length = sz) (h : Own w base T sz enc (.slice (some ⟨g, 0, none⟩) xs.length cap) xs)
    {i : Nat} (hi : i < xs.length) {j : Nat} {u : Value} (hu : (enc xs[i])[j]? = some u) : w.cell? ⟨g, i * sz + j, none⟩ = some u ∧ w.frozen? ⟨g, i * sz + j, none⟩ = false := by
  have hf := flatMap_at he xs i j xs[i] u (List.getElem?_eq_getElem hi) hu
  have hlt : i * sz + j < xs.length * sz := by rw [← h.1]; exact (List.getElem?_eq_some_iff.1 hf).1
  exact ⟨by rw [World.ownsRow.cellAt h _ hlt, hf], World.ownsRow.frozenAt h _⟩

theorem Own.cases {α : Type} {w : World} {base sz : Nat} {T : TypeId} {enc : α → List Value} {v : Value} {xs : List α} (h : Own w base T sz enc v xs) :
    (v = .slice none 0 0 ∧ xs = []) ∨ ∃ g cap, v = .slice (some ⟨g, 0, none⟩) xs.length cap ∧ base ≤ g ∧ g < w.heap.size ∧ xs.length ≤ cap ∧ cap ≤ maxLen := by
  obtain ⟨hl, h⟩ := h
  rcases h with ⟨rfl, h0⟩ | ⟨g, cap, cur, rfl, hg, hh, hnc, hm, hcs, ht⟩
  · exact .inl ⟨rfl, List.eq_nil_of_length_eq_zero h0⟩
  · refine .inr ⟨g, cap, rfl, hg, ?_, hnc, hm⟩
    rcases Nat.lt_or_ge g w.heap.size with h2 | h2
    · exact h2
    · rw [Array.getElem?_eq_none h2] at hh; cases hh

theorem grownBy_storeRow {g : Nat} {w0 : World} : ∀ (us : List Value) (w : World) (i : Nat), w0.grownBy w (some g) → w0.grownBy (storeRow w g i us) (some g)
  | [], _, _, h => h
  | u :: us, w, i, h => grownBy_storeRow us _ (i + 1) ⟨h.os, h.tape, h.output, by simpa [World.setCell] using h.size, fun k hk hne => (Below.heap_setCell w ⟨g, i, none⟩ u k (by
      intro e; exact hne (by rw [e]))).trans (h.block k hk hne)⟩

/-- What the marks are: element j bears the numbers from k + j * cnt on. -/
def marks {α : Type} (mk : Int → α) (cnt : Nat) (k : Int) (n : Nat) : List α := (List.range n).map fun (j : Nat) => mk (k + (j : Int) * (cnt : Int))
theorem marks_length {α : Type} (mk : Int → α) (cnt : Nat) (k : Int) (n : Nat) : (marks mk cnt k n).length = n := by simp [marks]
theorem marks_get {α : Type} (mk : Int → α) (cnt : Nat) (k : Int) (n i : Nat) (h : i < n) : (marks mk cnt k n)[i]? = some (mk (k + (i : Int) * (cnt : Int))) := by simp [marks, h]
theorem marks_step {α : Type} (mk : Int → α) (cnt : Nat) (k : Int) (xs : List α) (i : Nat) (h : i < xs.length) :
    (marks mk cnt k i ++ xs.drop i).set i (mk (k + (i : Int) * (cnt : Int))) = marks mk cnt k (i + 1) ++ xs.drop (i + 1) := by
  rw [List.set_append_right _ _ (by simp [marks]), marks_length, Nat.sub_self, List.drop_eq_getElem_cons h, List.set_cons_zero]
  simp [marks, List.range_succ]
theorem marks_mid_length {α : Type} (mk : Int → α) (cnt : Nat) (k : Int) (xs : List α) (i : Nat) (h : i ≤ xs.length) : (marks mk cnt k i ++ xs.drop i).length = xs.length := by simp [marks]; omega

/-! ### arguments that are slices -/
theorem choose_list {α : Type} {p : Nat → α → Prop} : ∀ {n : Nat}, (∀ i, i < n → ∃ x, p i x) → ∃ xs : List α, xs.length = n ∧ ∀ i x, xs[i]? = some x → p i x
  | 0, _ => ⟨[], rfl, fun i x h => by simp at h⟩
  | n + 1, h => by
    obtain ⟨xs, hl, hx⟩ := choose_list (p := p) (n := n) fun i hi => h i (by omega)
    obtain ⟨y, hy⟩ := h n (by omega)
    refine ⟨xs ++ [y], by simp [hl], fun i x hi => ?_⟩
    by_cases hlt : i < n
    · rw [List.getElem?_append_left (by omega)] at hi; exact hx i x hi
    · rw [List.getElem?_append_right (by omega), hl] at hi
      have : i = n := by
        have := (List.getElem?_eq_some_iff.1 hi).1
        simp at this; omega
      subst this
      simp at hi; subst hi; exact hy

section
open Go.ChangeShapes Go.WideShapes Go.Deep
variable {H : Type} {encH : TypeId × Value → H} {P : Program} {w : World}
theorem open_rowsT {α : Type} {enc : α → List Value} {ok : α → Prop} {t e : TypeId} {fs : Array Field} {v : Value} {y0 : DataW H × List MemPlace} {fuel : Nat}
    (ht : P.underlying t = some (.slice e)) (he : P.underlying e = some (.struct fs)) (hone : oneCellFields P fs = true) (hC : P.cellsOf e = fs.size) (h0 : 0 < fs.size)
    (hf : DataW.trod encH P w 0 (fun _ => true) true fuel t [v] = some y0)
    (hrow : ∀ us : List Value, us.length = fs.size → (∀ (j : Nat) (f : Field), fs[j]? = some f → ∃ (u : Value) (y : DataW H × List MemPlace) (n : Nat), us[j]? = some u ∧ DataW.trod encH P w 0 (fun _ => true) true n f.type [u] = some y) → ∃ x : α, enc x = us ∧ ok x) :
    ∃ xs : List α, Rd w fs.size enc v xs ∧ ∀ x ∈ xs, ok x := by
  rcases open_slice ht hf with ⟨hcs, _⟩ | ⟨a, len, cap, m, n, D, Pl, hcs, hb, hl, hm, hmm, hx, hi⟩
  · have e1 : v = .slice none 0 0 := by simpa using hcs
    rw [e1]
    exact ⟨[], RdB.nil_, by simp⟩
  · have e1 : v = .slice (some a) len cap := by simpa using hcs
    rw [e1]
    have hlm : len ≤ m := by rw [hmm]; simp; exact hl
    have key : ∀ i, i < len → ∃ x : α, ok x ∧ ∀ j u, (enc x)[j]? = some u → w.cell? (a.add (i * fs.size + j)) = some u := by
      intro i hi'
      obtain ⟨cs', hc, ht'⟩ := hi i (by omega)
      rw [hC] at hc
      obtain ⟨_, hcl, hat⟩ := World.cells?_some hc
      obtain ⟨ys, n', hn', hy, hlen, hyl, hff⟩ := DataW.trod_struct he ht'
      obtain ⟨x, hx1, hx2⟩ := hrow cs' hcl (by
        intro j f hj
        obtain ⟨ho, hk⟩ := hone_of hone j f hj
        have hjl : j < fs.size := (Array.getElem?_eq_some_iff.1 hj).1
        have h1 := hff j f hj
        rw [ho, hk] at h1
        have hone' : (cs'.drop j).take 1 = [cs'[j]'(by omega)] := by
          rw [List.drop_eq_getElem_cons (by omega)]
          rfl
        rw [hone'] at h1
        have hys : ys[j]? = some (ys[j]'(by omega)) := List.getElem?_eq_getElem (by omega)
        exact ⟨_, _, _, List.getElem?_eq_getElem (by omega), h1.trans hys⟩)
      refine ⟨x, hx2, fun j u hu => ?_⟩
      rw [hx1] at hu
      have hj : j < fs.size := by rw [← hcl]; exact (List.getElem?_eq_some_iff.1 hu).1
      rw [← Go.Deep.add_add, hat j hj, hu]
    obtain ⟨xs, hxl, hxs⟩ := choose_list key
    refine ⟨xs, ⟨some a, cap, by rw [hxl], by omega, hm, fun hpos => ?_⟩, ?_⟩
    · obtain ⟨b, off, spot⟩ := a
      obtain ⟨x0, hx0⟩ : ∃ x0, xs[0]? = some x0 := ⟨_, List.getElem?_eq_getElem hpos⟩
      have henc : ∀ i x, xs[i]? = some x → ∀ j u, (enc x)[j]? = some u → w.cell? ((⟨b, off, spot⟩ : Addr).add (i * fs.size + j)) = some u := fun i x hx j u hu => (hxs i x hx).2 j u hu
      obtain ⟨cs', hc, _⟩ := hi 0 (by omega)
      rw [hC] at hc
      obtain ⟨_, hcl, hat⟩ := World.cells?_some hc
      have hc0 := hat 0 h0
      have hc0' : w.cell? (⟨b, off, spot⟩ : Addr) = some (cs'[0]'(by omega)) := by
        simpa [Addr.add] using hc0.trans (List.getElem?_eq_getElem (by omega))
      have hspot : spot = none := World.cell?_spot hc0'
      subst hspot
      refine ⟨b, off, rfl, World.block_lt_of_cell? w _ hc0', fun i x hx j u hu => ?_⟩
      have := henc i x hx j u hu
      rw [Go.WideShapes.add_plain] at this
      rw [Nat.add_assoc]; exact this
    · intro x hx
      obtain ⟨i, hi', hxi⟩ := List.getElem_of_mem hx
      exact (hxs i x (by rw [← hxi]; exact List.getElem?_eq_getElem hi')).1

theorem open_rows {α : Type} {enc : α → List Value} {ok : α → Prop} {r : Reach} {b0 : Nat} {t e : TypeId} {fs : Array Field} {v : Value} {d : DataW H} {p : List MemPlace}
    (ht : P.underlying t = some (.slice e)) (he : P.underlying e = some (.struct fs)) (hone : oneCellFields P fs = true) (hC : P.cellsOf e = fs.size) (h0 : 0 < fs.size)
    (hv : Value.okWide P w r b0 t v) (h : DataW.Trod encH P w 0 (fun _ => true) true t v d p)
    (hrow : ∀ us : List Value, us.length = fs.size → (∀ (j : Nat) (f : Field), fs[j]? = some f → ∃ (u : Value) (y : DataW H × List MemPlace) (n : Nat), us[j]? = some u ∧ DataW.trod encH P w 0 (fun _ => true) true n f.type [u] = some y) → ∃ x : α, enc x = us ∧ ok x) :
    ∃ xs : List α, Rd w fs.size enc v xs ∧ ∀ x ∈ xs, ok x := by
  obtain ⟨a0, len0, cap0, rfl⟩ := okWide_slice ht hv
  obtain ⟨fuel, hf⟩ := h
  exact open_rowsT ht he hone hC h0 (by simpa [Value.cells] using hf) hrow

theorem open_rowsI {r : Reach} {b0 : Nat} {t e : TypeId} {v : Value} {d : DataW H} {p : List MemPlace}
    (ht : P.underlying t = some (.slice e)) (he : P.underlying e = some (.int .i64)) (hC : P.cellsOf e = 1)
    (hv : Value.okWide P w r b0 t v) (h : DataW.Trod encH P w 0 (fun _ => true) true t v d p) :
    ∃ xs : List Int, RdI w v xs ∧ ∀ x ∈ xs, (Lit.int .i64 x).wf = true := by
  obtain ⟨a0, len0, cap0, rfl⟩ := okWide_slice ht hv
  obtain ⟨fuel, hf⟩ := h
  rcases open_ints ht he hC hf with ⟨hcs, _⟩ | ⟨a, len, cap, zs, hcs, hb, hl, hm, hz, hx, hcell, hwf⟩
  · have e1 : Value.slice a0 len0 cap0 = .slice none 0 0 := by simpa [Value.cells] using hcs
    rw [e1]
    exact ⟨[], RdB.nil_, by simp⟩
  · have e1 : Value.slice a0 len0 cap0 = .slice (some a) len cap := by simpa [Value.cells] using hcs
    rw [e1]
    have hzl : zs.length = cap := by simpa using hz
    have hll : (zs.take len).length = len := by simp; omega
    refine ⟨zs.take len, ⟨some a, cap, by rw [hll], by omega, hm, fun hpos => ?_⟩, fun x hx => hwf x (List.mem_of_mem_take hx)⟩
    obtain ⟨b, off, spot⟩ := a
    have hc0 := hcell 0 (by omega)
    have hspot : spot = none := by simpa [Addr.add] using World.cell?_spot hc0
    subst hspot
    have hc0' : w.cell? (⟨b, off, none⟩ : Addr) = some (.int .i64 (zs.getD 0 0)) := by simpa [Addr.add] using hc0
    refine ⟨b, off, rfl, World.block_lt_of_cell? w _ hc0', fun i x hx j u hu => ?_⟩
    have hj : j = 0 := by have := (List.getElem?_eq_some_iff.1 hu).1; simpa using this
    subst hj
    have hi : i < len := by rw [← hll]; exact (List.getElem?_eq_some_iff.1 hx).1
    have hc := hcell i (by omega)
    rw [Go.WideShapes.add_plain] at hc
    rw [List.getElem?_take, if_pos hi] at hx
    simp only [encI, List.getElem?_cons_zero, Option.some.injEq] at hu
    rw [Nat.mul_one, Nat.add_zero, hc, ← hu]
    simp [List.getD, hx]
end

end Go.Proofs.Ytjfppjhlkeopnaa

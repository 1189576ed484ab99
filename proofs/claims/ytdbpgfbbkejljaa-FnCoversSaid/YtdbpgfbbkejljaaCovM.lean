/- The program's search for a cover: what lies in memory. No condition. -/
import Derived.Test.YtdbpgfbbkejljaaPersW
namespace Go.Proofs.Ytdbpgfbbkejljaa
open Go.RowKit
set_option linter.unusedVariables false
theorem Own.takeK {α : Type} {w : World} {base sz n cap k : Nat} {T : TypeId} {enc : α → List Value} {A : Option Addr} {xs : List α} (he : ∀ x, (enc x).length = sz) (h : Own w base T sz enc (.slice A n cap) xs) (hn : xs.length = n) (hk : k ≤ n) : Own w base T sz enc (.slice A k cap) (xs.take k) := by
  obtain ⟨hl, h⟩ := h
  have e1 : (xs.take k).length = k := by rw [List.length_take]; omega
  have hfl : ((xs.take k).flatMap enc).length = (xs.take k).length * sz := by
    generalize xs.take k = ys
    induction ys with
    | nil => simp
    | cons a l ih => rw [List.flatMap_cons, List.length_append, he, ih, List.length_cons, Nat.add_mul, Nat.one_mul, Nat.add_comm]
  have htk : (xs.take k).flatMap enc = (xs.flatMap enc).take (k * sz) := by
    have e2 : xs.flatMap enc = (xs.take k).flatMap enc ++ (xs.drop k).flatMap enc := by rw [← List.flatMap_append, List.take_append_drop]
    rw [e2, List.take_left' (by rw [hfl, e1])]
  refine ⟨hfl, ?_⟩
  rcases h with ⟨h1, h2⟩ | ⟨g, c, cur, h1, h2, h3, h4, h5, h6, h7⟩
  · injection h1 with a b c
    subst a; subst b; subst c
    obtain rfl : k = 0 := by omega
    exact .inl ⟨rfl, by simp⟩
  · injection h1 with a b c'
    subst a; subst c'
    refine .inr ⟨g, cap, cur, by rw [e1], h2, h3, by omega, h5, h6, ?_⟩
    rw [htk, ← h7, e1, List.take_take, Nat.min_eq_left]
    exact Nat.mul_le_mul_right _ (by omega)
theorem ints_set (l : List Nat) (k z : Nat) : (ints l).set k (z : Int) = ints (l.set k z) := by unfold ints; rw [List.map_set]
theorem ints_take (l : List Nat) (k : Nat) : (ints l).take k = ints (l.take k) := by unfold ints; rw [List.map_take]
theorem ownU_cell {w : World} {base g N cap : Nat} {T : TypeId} {l : List Nat} (h : Own w base T 1 encU (.slice (some ⟨g, 0, none⟩) N cap) (ints l)) (hl : l.length = N) {k : Nat} (hk : k < N) : w.cell? ⟨g, k, none⟩ = some (.int .u64 (l.getD k 0 : Nat)) ∧ w.frozen? ⟨g, k, none⟩ = false := by
  subst hl
  have h' : Own w base T 1 encU (.slice (some ⟨g, 0, none⟩) (ints l).length cap) (ints l) := by rw [ints_len]; exact h
  have := Own.cells (i := k) (j := 0) (u := .int .u64 (l[k] : Nat)) encU_len h' (by rw [ints_len]; exact hk) (by simp [ints])
  simpa [List.getD, hk] using this
theorem ownU_set {w : World} {base g N cap : Nat} {T : TypeId} {l : List Nat} (h : Own w base T 1 encU (.slice (some ⟨g, 0, none⟩) N cap) (ints l)) (hl : l.length = N) {k : Nat} (hk : k < N) (z : Nat) : Own (w.setCell ⟨g, k, none⟩ (.int .u64 z)) base T 1 encU (.slice (some ⟨g, 0, none⟩) N cap) (ints (l.set k z)) := by
  subst hl
  have h' : Own w base T 1 encU (.slice (some ⟨g, 0, none⟩) (ints l).length cap) (ints l) := by rw [ints_len]; exact h
  have := Own.setRow (i := k) encU_len h' (by rw [ints_len]; exact hk) (z : Int)
  rw [ints_set, ints_len] at this
  simpa [storeRow] using this
theorem own_slice {α : Type} {w : World} {base sz N : Nat} {T : TypeId} {enc : α → List Value} {v : Value} {xs : List α} (he : ∀ x, (enc x).length = sz) (h : Own w base T sz enc v xs) (hl : xs.length = N) : ∃ A c, v = .slice A N c ∧ N ≤ c ∧ c ≤ maxLen := by
  obtain ⟨A, c, rfl, h1, h2, -⟩ := Own.rd he h
  exact ⟨A, c, by rw [hl], by omega, h2⟩
theorem own_slot {α : Type} {w : World} {base sz N : Nat} {T : TypeId} {enc : α → List Value} {v : Value} {xs : List α} (h : Own w base T sz enc v xs) (hl : xs.length = N) (h0 : 0 < N) : ∃ g cap, v = .slice (some ⟨g, 0, none⟩) N cap ∧ base ≤ g ∧ g < w.heap.size ∧ N ≤ cap ∧ cap ≤ 9223372036854775807 := by
  rcases Own.cases h with ⟨_, rfl⟩ | ⟨g, cap, rfl, h1, h2, h3, h4⟩
  · simp at hl; omega
  · unfold maxLen at h4
    exact ⟨g, cap, by rw [hl], h1, h2, by omega, by omega⟩
theorem own_far {α : Type} {w w' : World} {base sz : Nat} {T : TypeId} {enc : α → List Value} {v : Value} {xs : List α} {row : Option Nat} (h : Own w base T sz enc v xs) (hg : w.grownBy w' row) (hne : ∀ b, v.ownBlock = some b → row ≠ some b) : Own w' base T sz enc v xs :=
  World.ownsRow.kept h hg (by
    cases hv : v.ownBlock with
    | none => exact .inl rfl
    | some k => exact .inr (fun e => hne k hv e.symm))
theorem getD_get {l : List Nat} {q : Nat} (h : q < l.length) : l.getD q 0 = l[q] := by simp [List.getD, h]
theorem getD_set {l : List Nat} {q : Nat} (z : Nat) (h : q < l.length) : (l.set q z).getD q 0 = z := by simp [List.getD, h]
theorem set_back {l : List Nat} {q g : Nat} (h : l.getD q 0 = g) (hq : q < l.length) : l.set q g = l := by
  subst h
  simp [List.getD, hq]
/-- the search's struct in block X, with its groups and its persons -/
structure CvSt (w : World) (X : Nat) (vs vg vw : Value) (m : Nat) (gs ws : List Nat) : Prop where
  c0 : w.cell? ⟨X, 0, none⟩ = some vs
  c1 : w.cell? ⟨X, 1, none⟩ = some (.int .i64 m)
  c2 : w.cell? ⟨X, 2, none⟩ = some vg
  c3 : w.cell? ⟨X, 3, none⟩ = some vw
  f2 : w.frozen? ⟨X, 2, none⟩ = false
  f3 : w.frozen? ⟨X, 3, none⟩ = false
  hl : X < w.heap.size
  og : Own w (X + 1) 66 1 encU vg (ints gs)
  ow : Own w (X + 1) 3 1 encI vw (ints ws)
  ne : ∀ b, vg.ownBlock = some b → vw.ownBlock ≠ some b
section
variable {w w' : World} {X m : Nat} {vs vg vw v' : Value} {gs ws gs' ws' : List Nat}
theorem CvSt.below (h : CvSt w X vs vg vw m gs ws) (hb : Below w.heap.size w w') : CvSt w' X vs vg vw m gs ws :=
  ⟨cellKeep hb h.c0 h.hl, cellKeep hb h.c1 h.hl, cellKeep hb h.c2 h.hl, cellKeep hb h.c3 h.hl, frozenKeep hb h.f2 h.hl, frozenKeep hb h.f3 h.hl, Nat.lt_of_lt_of_le h.hl hb.size, h.og.below hb, h.ow.below hb, h.ne⟩
theorem CvSt.ng (h : CvSt w X vs vg vw m gs ws) : vg.ownBlock ≠ some X := fun e => by have := (World.ownsRow.lt h.og X e).1; omega
theorem CvSt.nw (h : CvSt w X vs vg vw m gs ws) : vw.ownBlock ≠ some X := fun e => by have := (World.ownsRow.lt h.ow X e).1; omega
/-- groups or persons appended, ahead of the store -/
theorem CvSt.grown {row : Option Nat} (h : CvSt w X vs vg vw m gs ws) (hg : w.grownBy w' row) (hr : row ≠ some X) :
    w'.cell? ⟨X, 0, none⟩ = some vs ∧ w'.cell? ⟨X, 1, none⟩ = some (.int .i64 m) ∧ w'.cell? ⟨X, 2, none⟩ = some vg ∧ w'.cell? ⟨X, 3, none⟩ = some vw ∧ w'.frozen? ⟨X, 2, none⟩ = false ∧ w'.frozen? ⟨X, 3, none⟩ = false := by
  have hbk := hg.block X h.hl (fun e => hr e.symm)
  exact ⟨(World.cell?_of_block (a := ⟨X, 0, none⟩) hbk).trans h.c0, (World.cell?_of_block (a := ⟨X, 1, none⟩) hbk).trans h.c1, (World.cell?_of_block (a := ⟨X, 2, none⟩) hbk).trans h.c2, (World.cell?_of_block (a := ⟨X, 3, none⟩) hbk).trans h.c3, (World.frozen?_of_block (a := ⟨X, 2, none⟩) hbk).trans h.f2, (World.frozen?_of_block (a := ⟨X, 3, none⟩) hbk).trans h.f3⟩
theorem CvSt.storeG (h : CvSt w X vs vg vw m gs ws) (hg : w.grownBy w' vg.ownBlock) (ho : Own w' (X + 1) 66 1 encU v' (ints gs')) (hv : v'.ownBlock = vg.ownBlock ∨ v'.ownBlock = some w.heap.size) : CvSt (w'.setCell ⟨X, 2, none⟩ v') X vs v' vw m gs' ws := by
  obtain ⟨y0, y1, y2, y3, r2, r3⟩ := h.grown hg h.ng
  have hl := h.hl
  have hn : v'.ownBlock ≠ some X := fun e => by have := (World.ownsRow.lt ho X e).1; omega
  refine ⟨by simp [go_sem, y0], by simp [go_sem, y1], by simp [go_sem, y2], by simp [go_sem, y3], by simp [go_sem, r2], by simp [go_sem, r3], by simpa [World.setCell] using Nat.lt_of_lt_of_le h.hl hg.size, ho.setFar hn _, (own_far h.ow hg (fun b hb e => h.ne b e hb)).setFar h.nw _, fun b hb => ?_⟩
  rcases hv with e | e
  · rw [e] at hb; exact h.ne b hb
  · rw [e] at hb; have h1 := Option.some.inj hb; intro e2; have := (World.ownsRow.lt h.ow b e2).2; omega
theorem CvSt.storeW (h : CvSt w X vs vg vw m gs ws) (hg : w.grownBy w' vw.ownBlock) (ho : Own w' (X + 1) 3 1 encI v' (ints ws')) (hv : v'.ownBlock = vw.ownBlock ∨ v'.ownBlock = some w.heap.size) : CvSt (w'.setCell ⟨X, 3, none⟩ v') X vs vg v' m gs ws' := by
  obtain ⟨y0, y1, y2, y3, r2, r3⟩ := h.grown hg h.nw
  have hl := h.hl
  have hn : v'.ownBlock ≠ some X := fun e => by have := (World.ownsRow.lt ho X e).1; omega
  refine ⟨by simp [go_sem, y0], by simp [go_sem, y1], by simp [go_sem, y2], by simp [go_sem, y3], by simp [go_sem, r2], by simp [go_sem, r3], by simpa [World.setCell] using Nat.lt_of_lt_of_le h.hl hg.size, (own_far h.og hg (fun b hb => h.ne b hb)).setFar h.ng _, ho.setFar hn _, fun b hb => ?_⟩
  rcases hv with e | e
  · rw [e]; exact h.ne b hb
  · rw [e]; intro e2; have h1 := Option.some.inj e2; have := (World.ownsRow.lt h.og b hb).2; omega
/-- one group turned in place -/
theorem CvSt.gset {b N cap q : Nat} (h : CvSt w X vs (.slice (some ⟨b, 0, none⟩) N cap) vw m gs ws) (hN : gs.length = N) (hq : q < N) (z : Nat) : CvSt (w.setCell ⟨b, q, none⟩ (.int .u64 z)) X vs (.slice (some ⟨b, 0, none⟩) N cap) vw m (gs.set q z) ws := by
  have hb := (World.ownsRow.lt h.og b rfl)
  have hbX : b ≠ X := by omega
  have hne : vw.ownBlock ≠ some b := h.ne b rfl
  exact ⟨by simp [go_sem, h.c0, hbX], by simp [go_sem, h.c1, hbX], by simp [go_sem, h.c2, hbX], by simp [go_sem, h.c3, hbX], by simp [go_sem, h.f2], by simp [go_sem, h.f3], by simpa [World.setCell] using h.hl, ownU_set h.og hN hq z, h.ow.setFar hne _, h.ne⟩
/-- the first persons, the first groups alone -/
theorem CvSt.cutW {A : Option Addr} {n cap k : Nat} (h : CvSt w X vs vg (.slice A n cap) m gs ws) (hn : ws.length = n) (hk : k ≤ n) : CvSt (w.setCell ⟨X, 3, none⟩ (.slice A k cap)) X vs vg (.slice A k cap) m gs (ws.take k) := by
  have e : (Value.slice A k cap).ownBlock = (Value.slice A n cap).ownBlock := by cases A <;> rfl
  have ho := Own.takeK encI_len h.ow (by rw [ints_len]; exact hn) hk
  rw [ints_take] at ho
  exact ⟨by simp [go_sem, h.c0], by simp [go_sem, h.c1], by simp [go_sem, h.c2], by simp [go_sem, h.c3], by simp [go_sem, h.f2], by simp [go_sem, h.f3], by simpa [World.setCell] using h.hl, h.og.setFar h.ng _, ho.setFar (by rw [e]; exact h.nw) _, fun b hb => by rw [e]; exact h.ne b hb⟩
theorem CvSt.cutG {A : Option Addr} {n cap k : Nat} (h : CvSt w X vs (.slice A n cap) vw m gs ws) (hn : gs.length = n) (hk : k ≤ n) : CvSt (w.setCell ⟨X, 2, none⟩ (.slice A k cap)) X vs (.slice A k cap) vw m (gs.take k) ws := by
  have e : (Value.slice A k cap).ownBlock = (Value.slice A n cap).ownBlock := by cases A <;> rfl
  have ho := Own.takeK encU_len h.og (by rw [ints_len]; exact hn) hk
  rw [ints_take] at ho
  exact ⟨by simp [go_sem, h.c0], by simp [go_sem, h.c1], by simp [go_sem, h.c2], by simp [go_sem, h.c3], by simp [go_sem, h.f2], by simp [go_sem, h.f3], by simpa [World.setCell] using h.hl, ho.setFar (by rw [e]; exact h.ng) _, h.ow.setFar h.nw _, fun b hb => h.ne b (by rw [← e]; exact hb)⟩
end
/-- what the search leaves -/
def CvRes (B : Nat → Nat → Bool) (n X : Nat) (vs : Value) (m : Nat) (gs ws : List Nat) (w : World) (e : Ending) (w' : World) : Prop :=
  ∃ (b : Bool) (vg vw : Value) (gs' ws' : List Nat), e = .returned (.bool b) ∧ CvSt w' X vs vg vw m gs' ws' ∧ Below X w w' ∧ (b = true → CovL B n m ws') ∧ (b = false → gs' = gs ∧ ws' = ws ∧ ¬ ExtP B n m ws)
end Go.Proofs.Ytdbpgfbbkejljaa

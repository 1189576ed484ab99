/- Windows of the minutes that are accepted, in plain words and in memory. No condition. -/
import Derived.Test.YtjfppjhlkeopnaaSWindow
import Derived.Test.YtjfppjhlkeopnaaApp
import Derived.Test.YtjfppjhlkeopnaaFore2
namespace Go.Proofs.Ytjfppjhlkeopnaa
open Go.RowKit
set_option linter.unusedVariables false
def lastAt (xs : List WindowD) (m : Int) : Bool := decide (0 < xs.length) && decide ((xs.getD (xs.length - 1) default).fin = m)
def setLast (xs : List WindowD) (m : Int) : List WindowD := xs.set (xs.length - 1) ⟨(xs.getD (xs.length - 1) default).start, m⟩
def winsTo (acc : Nat → Bool) : Nat → List WindowD
  | 0 => []
  | m + 1 => if acc m = true then (if lastAt (winsTo acc m) ((m : Int) - 1) = true then setLast (winsTo acc m) m else winsTo acc m ++ [⟨m, m⟩]) else winsTo acc m
def openAt (acc : Nat → Bool) : Nat → Bool
  | 0 => false
  | m + 1 => acc m
def WinOk (xs : List WindowD) (B : Int) : Prop := (∀ i (h : i < xs.length), 0 ≤ xs[i].start ∧ xs[i].start ≤ xs[i].fin ∧ xs[i].fin < B) ∧ ∀ i (h : i + 1 < xs.length), xs[i].fin + 1 < xs[i + 1].start
theorem setLast_len (xs : List WindowD) (m : Int) : (setLast xs m).length = xs.length := by simp [setLast]
theorem lastAt_iff {xs : List WindowD} {m : Int} : lastAt xs m = true ↔ ∃ l, ∃ h : l + 1 = xs.length, (xs[l]'(by omega)).fin = m := by
  unfold lastAt
  simp only [Bool.and_eq_true, decide_eq_true_eq]
  constructor
  · rintro ⟨h1, h2⟩
    refine ⟨xs.length - 1, by omega, ?_⟩
    rwa [getD_at (by omega)] at h2
  · rintro ⟨l, h, h2⟩
    refine ⟨by omega, ?_⟩
    have e : xs.length - 1 = l := by omega
    rw [e, getD_at (by omega)]; exact h2
theorem winsTo_ok (acc : Nat → Bool) : ∀ m : Nat, WinOk (winsTo acc m) m
  | 0 => ⟨fun i h => by simp [winsTo] at h, fun i h => by simp [winsTo] at h⟩
  | m + 1 => by
    obtain ⟨h1, h2⟩ := winsTo_ok acc m
    rw [winsTo]
    split
    · split
      · rename_i hl
        obtain ⟨l, hl1, hl2⟩ := lastAt_iff.1 hl
        have e : (winsTo acc m).length - 1 = l := by omega
        unfold setLast
        rw [e, getD_at (by omega)]
        refine ⟨fun i hi => ?_, fun i hi => ?_⟩
        · rw [List.length_set] at hi
          rw [List.getElem_set]
          have a := h1 i hi
          have b := h1 l (by omega)
          split
          · simp only; omega
          · omega
        · rw [List.length_set] at hi
          have a := h2 i hi
          rw [List.getElem_set, List.getElem_set]
          rw [if_neg (show ¬ l = i by omega)]
          split
          · rename_i e2; subst e2; simp only; exact a
          · exact a
      · rename_i hl
        refine ⟨fun i hi => ?_, fun i hi => ?_⟩
        · rw [List.getElem_append]
          split
          · rename_i hlt; have := h1 i hlt; omega
          · simp only [List.getElem_singleton]; omega
        · rw [List.length_append] at hi
          simp only [List.length_singleton] at hi
          rw [List.getElem_append, List.getElem_append]
          rw [dif_pos (by omega)]
          split
          · rename_i hlt; exact h2 i hlt
          · rename_i hlt
            have a := h1 i (by omega)
            have hne : (winsTo acc m)[i].fin ≠ (m : Int) - 1 := fun e => hl (lastAt_iff.2 ⟨i, by omega, e⟩)
            simp only [List.getElem_singleton]
            omega
    · exact ⟨fun i h => by have := h1 i h; omega, h2⟩
theorem winsTo_len (acc : Nat → Bool) : ∀ m : Nat, (winsTo acc m).length ≤ m
  | 0 => by simp [winsTo]
  | m + 1 => by
    have := winsTo_len acc m
    rw [winsTo]
    split
    · split
      · rw [setLast_len]; omega
      · simp; omega
    · omega
theorem open_last (acc : Nat → Bool) : ∀ m : Nat, lastAt (winsTo acc m) ((m : Int) - 1) = openAt acc m
  | 0 => by simp [winsTo, lastAt, openAt]
  | m + 1 => by
    show _ = acc m
    have hm : ((m + 1 : Nat) : Int) - 1 = m := by omega
    rw [hm, winsTo]
    split
    · rename_i ha
      rw [ha]
      split
      · rename_i hl
        obtain ⟨l, hl1, hl2⟩ := lastAt_iff.1 hl
        refine lastAt_iff.2 ⟨l, by rw [setLast_len]; exact hl1, ?_⟩
        unfold setLast
        rw [List.getElem_set, if_pos (by omega)]
      · refine lastAt_iff.2 ⟨(winsTo acc m).length, by simp, ?_⟩
        rw [List.getElem_append_right (Nat.le_refl _)]
        simp
    · rename_i ha
      cases hb : acc m
      · cases hl : lastAt (winsTo acc m) (m : Int)
        · rfl
        · obtain ⟨l, hl1, hl2⟩ := lastAt_iff.1 hl
          have := (winsTo_ok acc m).1 l (by omega)
          omega
      · exact absurd hb ha
theorem winsTo_skip {acc : Nat → Bool} {m : Nat} (h : acc m = false) : winsTo acc (m + 1) = winsTo acc m := by rw [winsTo, h]; rfl
theorem winsTo_ext {acc : Nat → Bool} {m : Nat} (h : acc m = true) (hl : lastAt (winsTo acc m) ((m : Int) - 1) = true) : winsTo acc (m + 1) = setLast (winsTo acc m) m := by rw [winsTo, if_pos h, if_pos hl]
theorem winsTo_new {acc : Nat → Bool} {m : Nat} (h : acc m = true) (hl : lastAt (winsTo acc m) ((m : Int) - 1) = false) : winsTo acc (m + 1) = winsTo acc m ++ [⟨m, m⟩] := by rw [winsTo, if_pos h, if_neg (by rw [hl]; simp)]
theorem setLast_new (xs : List WindowD) (a b m : Int) : setLast (xs ++ [⟨a, b⟩]) m = xs ++ [⟨a, m⟩] := by
  unfold setLast
  have e : (xs ++ [(⟨a, b⟩ : WindowD)]).length - 1 = xs.length := by simp
  rw [e]
  simp [List.set_append, List.getD]
/-- the starts of something that takes n minutes -/
def shrinkL (n : Int) (xs : List WindowD) : List WindowD := (xs.filter fun x => decide (n ≤ x.fin - x.start)).map fun x => ⟨x.start, x.fin - n⟩
theorem shrinkL_len (n : Int) (xs : List WindowD) : (shrinkL n xs).length ≤ xs.length := by unfold shrinkL; rw [List.length_map]; exact List.length_filter_le _ _
theorem shrinkL_take {n : Int} {xs : List WindowD} {k : Nat} (h : k < xs.length) : shrinkL n (xs.take (k + 1)) = shrinkL n (xs.take k) ++ if n ≤ xs[k].fin - xs[k].start then [⟨xs[k].start, xs[k].fin - n⟩] else [] := by
  rw [List.take_succ_eq_append_getElem h]
  unfold shrinkL
  rw [List.filter_append, List.map_append]
  congr 1
  by_cases e : n ≤ xs[k].fin - xs[k].start
  · simp [e]
  · simp [e]
theorem WindowD.one (x : WindowD) : ∀ u ∈ WindowD.enc x, u.oneCell' = true := by intro u hu; simp [WindowD.enc] at hu; rcases hu with rfl | rfl <;> rfl
theorem rd_newAt {α : Type} {enc : α → List Value} {sz : Nat} (W : World) (x : α) (T : TypeId) {g : Nat} (hg : g = W.heap.size) : Rd (W.alloc (.cells ⟨enc x⟩ T)) sz enc (.slice (some ⟨g, 0, none⟩) 1 1) [x] := by subst hg; exact rd_new W x T
theorem set_same {α : Type} (cs : List α) (i : Nat) (a : α) (h : cs[i]? = some a) : cs.set i a = cs := by
  apply List.ext_getElem?
  intro j
  by_cases e : i = j
  · subst e
    have hlt := (List.getElem?_eq_some_iff.1 h).1
    rw [List.getElem?_set_self hlt, h]
  · rw [List.getElem?_set_ne e]
theorem ownSetFin {w : World} {base g cap : Nat} {T : TypeId} {xs : List WindowD} (h : Own w base T 2 WindowD.enc (.slice (some ⟨g, 0, none⟩) xs.length cap) xs) {i : Nat} (hi : i < xs.length) (n : Int) :
    Own (w.setCell ⟨g, i * 2 + 1, none⟩ (.int .i64 n)) base T 2 WindowD.enc (.slice (some ⟨g, 0, none⟩) xs.length cap) (xs.set i ⟨xs[i].start, n⟩) := by
  have := ownsRow_storeRow [.int .i64 n] w (i * 2 + 1) _ h
  have e : setRow (xs.flatMap WindowD.enc) (i * 2 + 1) [.int .i64 n] = (xs.set i ⟨xs[i].start, n⟩).flatMap WindowD.enc := by
    rw [← setRow_flatMap WindowD.enc_len ⟨xs[i].start, n⟩ xs i hi]
    have hf := flatMap_at WindowD.enc_len xs i 0 xs[i] (.int .i64 xs[i].start) (List.getElem?_eq_getElem hi) rfl
    show _ = Go.Proofs.Ytjfppjhlkeopnaa.setRow ((xs.flatMap WindowD.enc).set (i * 2) (.int .i64 xs[i].start)) (i * 2 + 1) [.int .i64 n]
    rw [set_same _ _ _ (by simpa using hf)]
  rw [e] at this
  unfold Own
  rw [List.length_set]
  exact this
theorem setLast_eq {xs : List WindowD} {l : Nat} (h : l + 1 = xs.length) (m : Int) : setLast xs m = xs.set l ⟨(xs[l]'(by omega)).start, m⟩ := by
  unfold setLast
  have e : xs.length - 1 = l := by omega
  rw [e, getD_at (by omega)]
abbrev encB : Bool → List Value := fun b => [.bool b]
theorem encB_len (b : Bool) : (encB b).length = 1 := rfl
theorem encB_one (x : Bool) : ∀ u ∈ encB x, u.oneCell' = true := by intro u hu; simp at hu; subst hu; rfl
def boolRow (n : Nat) (acc : Nat → Bool) : List Bool := (List.range n).map acc
theorem boolRow_len (n : Nat) (acc : Nat → Bool) : (boolRow n acc).length = n := by simp [boolRow]
theorem boolRow_succ (n : Nat) (acc : Nat → Bool) : boolRow (n + 1) acc = boolRow n acc ++ [acc n] := by simp [boolRow, List.range_succ]
theorem boolRow_at {n k : Nat} {acc : Nat → Bool} (h : k < n) : (boolRow n acc)[k]? = some (acc k) := by simp [boolRow, h]
theorem bool_info : (Try.prog.info? 4).map (fun i => (i.zero, i.size, i.bytes)) = some (some (.bool false), 1, 1) := by kernel_rfl
end Go.Proofs.Ytjfppjhlkeopnaa

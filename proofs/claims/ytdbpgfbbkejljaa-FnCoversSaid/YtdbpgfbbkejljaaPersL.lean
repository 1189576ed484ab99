/- Persons for duties, in plain words: the least number of sets of duties that go together pairwise; the search for a cover; duties in one line. No condition. -/
import Derived.Test.YtdbpgfbbkejljaaRivalL
namespace Go.Proofs.Ytdbpgfbbkejljaa
set_option linter.unusedVariables false
/-- the set P can be given to m persons -/
def CovP (B : Nat → Nat → Bool) (P : Nat → Prop) (m : Nat) : Prop := ∃ f : Nat → Nat, (∀ i, P i → f i < m) ∧ ∀ i k, P i → P k → k < i → f i = f k → B i k = true
theorem CovP.congr {B : Nat → Nat → Bool} {P Q : Nat → Prop} {m : Nat} (h : CovP B P m) (hq : ∀ i, Q i → P i) : CovP B Q m :=
  let ⟨f, h1, h2⟩ := h
  ⟨f, fun i hi => h1 i (hq i hi), fun i k hi hk => h2 i k (hq i hi) (hq k hk)⟩
theorem CovP.more {B : Nat → Nat → Bool} {P : Nat → Prop} {m m' : Nat} (h : CovP B P m) (hm : m ≤ m') : CovP B P m' :=
  let ⟨f, h1, h2⟩ := h
  ⟨f, fun i hi => by have := h1 i hi; omega, h2⟩
/-- each to himself -/
theorem CovP.id (B : Nat → Nat → Bool) (P : Nat → Prop) {m : Nat} (h : ∀ i, P i → i < m) : CovP B P m := ⟨fun i => i, h, fun i k _ _ hlt e => by replace e : i = k := e; omega⟩
def Clq (B : Nat → Nat → Bool) (P : Nat → Prop) : Prop := ∀ i k, P i → P k → k < i → B i k = true
theorem CovP.add {B : Nat → Nat → Bool} {R Q : Nat → Prop} {t m : Nat} (hQ : Clq B fun i => Q i ∨ i = t) (h : CovP B (fun i => R i ∧ ¬ Q i) m) : CovP B (fun i => R i ∨ i = t) (m + 1) := by
  classical
  obtain ⟨f, h1, h2⟩ := h
  refine ⟨fun i => if Q i ∨ i = t then m else f i, fun i hi => ?_, fun i k hi hk hlt e => ?_⟩
  · show (if Q i ∨ i = t then m else f i) < m + 1
    split
    · omega
    · rename_i hn
      have := h1 i ⟨by rcases hi with h | h; exact h; exact absurd (.inr h) hn, fun h => hn (.inl h)⟩
      omega
  · replace e : (if Q i ∨ i = t then m else f i) = (if Q k ∨ k = t then m else f k) := e
    by_cases hi' : Q i ∨ i = t
    · by_cases hk' : Q k ∨ k = t
      · exact hQ i k hi' hk' hlt
      · rw [if_pos hi', if_neg hk'] at e
        have := h1 k ⟨by rcases hk with h | h; exact h; exact absurd (.inr h) hk', fun h => hk' (.inl h)⟩
        omega
    · have hri : R i ∧ ¬ Q i := ⟨by rcases hi with h | h; exact h; exact absurd (.inr h) hi', fun h => hi' (.inl h)⟩
      by_cases hk' : Q k ∨ k = t
      · rw [if_neg hi', if_pos hk'] at e
        have := h1 i hri
        omega
      · rw [if_neg hi', if_neg hk'] at e
        exact h2 i k hri ⟨by rcases hk with h | h; exact h; exact absurd (.inr h) hk', fun h => hk' (.inl h)⟩ hlt e
theorem CovP.part {B : Nat → Nat → Bool} {R : Nat → Prop} {t m : Nat} (hB : ∀ i k, B i k = B k i) (ht : ¬ R t) (h : CovP B (fun i => R i ∨ i = t) m) : ∃ Q : Nat → Prop, (∀ i, Q i → R i) ∧ Clq B (fun i => Q i ∨ i = t) ∧ 1 ≤ m ∧ CovP B (fun i => R i ∧ ¬ Q i) (m - 1) := by
  classical
  obtain ⟨f, h1, h2⟩ := h
  have h1t := h1 t (.inr rfl)
  refine ⟨fun i => R i ∧ f i = f t, fun i h => h.1, fun i k hi hk hlt => ?_, by omega, ?_⟩
  · have ei : f i = f t := by rcases hi with h | h; exact h.2; rw [h]
    have ek : f k = f t := by rcases hk with h | h; exact h.2; rw [h]
    exact h2 i k (hi.imp (fun h => h.1) (fun h => h)) (hk.imp (fun h => h.1) (fun h => h)) hlt (by rw [ei, ek])
  · refine ⟨fun i => if f i = m - 1 then f t else f i, fun i hi => ?_, fun i k hi hk hlt e => ?_⟩
    · have a := h1 i (.inl hi.1)
      have b : f i ≠ f t := fun e => hi.2 ⟨hi.1, e⟩
      show (if f i = m - 1 then f t else f i) < m - 1
      split <;> omega
    · have bi : f i ≠ f t := fun e => hi.2 ⟨hi.1, e⟩
      have bk : f k ≠ f t := fun e => hk.2 ⟨hk.1, e⟩
      refine h2 i k (.inl hi.1) (.inl hk.1) hlt ?_
      replace e : (if f i = m - 1 then f t else f i) = (if f k = m - 1 then f t else f k) := e
      split at e <;> split at e <;> omega
/-- the least number of persons -/
def LeastP (B : Nat → Nat → Bool) (P : Nat → Prop) (m : Nat) : Prop := CovP B P m ∧ ∀ m', CovP B P m' → m ≤ m'
/-- what the inner loop has found when all parts have been seen -/
theorem LeastP.step {B : Nat → Nat → Bool} {R : Nat → Prop} {t a : Nat} (hB : ∀ i k, B i k = B k i) (ht : ¬ R t) (hc : CovP B (fun i => R i ∨ i = t) a)
    (hall : ∀ Q : Nat → Prop, (∀ i, Q i → R i) → Clq B (fun i => Q i ∨ i = t) → ∃ L, LeastP B (fun i => R i ∧ ¬ Q i) L ∧ a ≤ 1 + L) : LeastP B (fun i => R i ∨ i = t) a := by
  refine ⟨hc, fun m h => ?_⟩
  obtain ⟨Q, hQ, hcl, hm, hco⟩ := h.part hB ht
  obtain ⟨L, hL, ha⟩ := hall Q hQ hcl
  have := hL.2 _ hco
  omega
/-! ### the search -/
/-- duties with persons already: below u persons, some whole cover goes on from them -/
def ExtP (B : Nat → Nat → Bool) (n m : Nat) (who : List Nat) : Prop := ∃ f : Nat → Nat, (∀ i, i < n → f i < m) ∧ (∀ i k, i < n → k < i → f i = f k → B i k = true) ∧ ∀ (i : Nat) (h : i < who.length), f i = who[i]
theorem ExtP.start {B : Nat → Nat → Bool} {n m : Nat} (h : CovP B (fun i => i < n) m) : ExtP B n m [] :=
  let ⟨f, h1, h2⟩ := h
  ⟨f, h1, fun i k hi hk e => h2 i k hi (by show k < n; omega) hk e, fun i h => by simp at h⟩
/-- one of the persons in use, or the next one, can take the next duty -/
theorem ExtP.next {B : Nat → Nat → Bool} {n m : Nat} {who : List Nat} {u : Nat} (h : ExtP B n m who) (hn : who.length < n) (hu : ∀ x ∈ who, x < u) : ∃ p, p ≤ u ∧ p < m ∧ ExtP B n m (who ++ [p]) := by
  obtain ⟨f, h1, h2, h3⟩ := h
  by_cases hp : f who.length < u
  · refine ⟨f who.length, by omega, h1 _ hn, f, h1, h2, fun i hi => ?_⟩
    simp only [List.length_append, List.length_singleton] at hi
    by_cases e : i < who.length
    · rw [List.getElem_append_left e]; exact h3 i e
    · obtain rfl : i = who.length := by omega
      simp
  · have hm := h1 _ hn
    refine ⟨u, Nat.le_refl _, by omega, fun i => if f i = u then f who.length else if f i = f who.length then u else f i, fun i hi => ?_, fun i k hi hk e => ?_, fun i hi => ?_⟩
    · have := h1 i hi
      show (if f i = u then f who.length else if f i = f who.length then u else f i) < m
      split
      · exact hm
      · split <;> omega
    · refine h2 i k hi hk ?_
      replace e : (if f i = u then f who.length else if f i = f who.length then u else f i) = (if f k = u then f who.length else if f k = f who.length then u else f k) := e
      split at e <;> split at e <;> (try split at e) <;> (try split at e) <;> omega
    · simp only [List.length_append, List.length_singleton] at hi
      by_cases e : i < who.length
      · rw [List.getElem_append_left e]
        have e3 := h3 i e
        have := hu _ (List.getElem_mem e)
        show (if f i = u then f who.length else if f i = f who.length then u else f i) = who[i]
        rw [if_neg (by omega), if_neg (by omega)]
        exact e3
      · obtain rfl : i = who.length := by omega
        show (if f who.length = u then f who.length else if f who.length = f who.length then u else f who.length) = _
        simp
/-! ### rivals and persons -/
theorem free_colour : ∀ (m : Nat) (l : List Nat), l.length < m → ∃ c, c < m ∧ c ∉ l
  | 0, l, h => by omega
  | m + 1, l, h => by
    by_cases hm : m ∈ l
    · obtain ⟨c, h1, h2⟩ := free_colour m (l.erase m) (by rw [List.length_erase_of_mem hm]; have := List.length_pos_of_mem hm; omega)
      refine ⟨c, by omega, fun hc => h2 ?_⟩
      exact (List.mem_erase_of_ne (by omega)).2 hc
    · exact ⟨m, by omega, hm⟩
/-- numbers without repetition below m are at most m -/
theorem nodup_len : ∀ (m : Nat) (l : List Nat), l.Nodup → (∀ x ∈ l, x < m) → l.length ≤ m
  | 0, l, _, h => by
    cases l with
    | nil => simp
    | cons a l => exact absurd (h a List.mem_cons_self) (by omega)
  | m + 1, l, hn, h => by
    by_cases hm : m ∈ l
    · have := nodup_len m (l.erase m) (hn.erase _) (fun x hx => by
        have h1 := h x (List.mem_of_mem_erase hx)
        have h2 : x ≠ m := fun e => by subst e; exact (hn.not_mem_erase) hx
        omega)
      rw [List.length_erase_of_mem hm] at this
      omega
    · have := nodup_len m l hn (fun x hx => by
        have h1 := h x hx
        have h2 : x ≠ m := fun e => hm (e ▸ hx)
        omega)
      omega
/-- rivals need different persons -/
theorem rivals_le {B : Nat → Nat → Bool} (hB : ∀ i k, B i k = B k i) {n m : Nat} {f : Nat → Nat} (h1 : ∀ i, i < n → f i < m) (h2 : ∀ i k, i < n → k < i → f i = f k → B i k = true)
    {b : Nat} (hr : rivalB B (nums n b) = true) : (nums n b).length ≤ m := by
  have hp := nums_pair n b
  have h : ((nums n b).map f).length ≤ m := by
    refine nodup_len m _ ?_ ?_
    · unfold List.Nodup
      rw [List.pairwise_map]
      refine hp.imp_of_mem ?_
      intro i k hi hk hlt e
      have mi := mem_nums.1 hi
      have mk := mem_nums.1 hk
      have := h2 k i mk.1 hlt e.symm
      rw [(rivalB_nums hB).1 hr k i mk.1 mi.1 (by omega) mk.2 mi.2] at this
      cases this
    · intro x hx
      obtain ⟨i, hi, rfl⟩ := List.mem_map.1 hx
      exact h1 i (mem_nums.1 hi).1
  simpa using h
/-! ### duties in one line: a cover with as many persons as rivals -/
theorem line_cover {adj : Nat → Nat → Bool} {st : Nat → Int} (hs : ∀ i k, adj i k = adj k i) (m : Nat)
    (hline : ∀ i k t, st i ≤ st t → st k ≤ st t → adj i t = false → adj k t = false → i ≠ k → adj i k = false) :
    ∀ (n : Nat) (l : List Nat), l.length = n → l.Nodup → (∀ s : List Nat, s.Nodup → (∀ x ∈ s, x ∈ l) → (∀ x ∈ s, ∀ y ∈ s, x ≠ y → adj x y = false) → s.length ≤ m) →
      ∃ f : Nat → Nat, (∀ i ∈ l, f i < m) ∧ ∀ i ∈ l, ∀ k ∈ l, i ≠ k → f i = f k → adj i k = true := by
  intro n
  induction n with
  | zero =>
    intro l hl _ _
    obtain rfl := List.eq_nil_of_length_eq_zero hl
    exact ⟨fun _ => 0, ⟨(fun i hi => by cases hi), (fun i hi => by cases hi)⟩⟩
  | succ n ih =>
    intro l hl hn hr
    obtain ⟨t, ht, hmax⟩ : ∃ t ∈ l, ∀ i ∈ l, st i ≤ st t := by
      have key : ∀ l : List Nat, l ≠ [] → ∃ t ∈ l, ∀ i ∈ l, st i ≤ st t := by
        intro l
        induction l with
        | nil => intro h; exact absurd rfl h
        | cons a l ih =>
          intro _
          by_cases h0 : l = []
          · subst h0; exact ⟨a, List.mem_cons_self, fun i hi => by simp at hi; subst hi; exact Int.le_refl _⟩
          · obtain ⟨t, ht, h⟩ := ih h0
            by_cases hc : st a ≤ st t
            · exact ⟨t, List.mem_cons_of_mem _ ht, fun i hi => by rcases List.mem_cons.1 hi with e | e; subst e; exact hc; exact h i e⟩
            · exact ⟨a, List.mem_cons_self, fun i hi => by
                rcases List.mem_cons.1 hi with e | e
                · subst e; exact Int.le_refl _
                · have := h i e; omega⟩
      exact key l (fun e => by subst e; simp at hl)
    have hmem : ∀ x, x ∈ l.erase t ↔ x ≠ t ∧ x ∈ l := fun x => hn.mem_erase_iff
    obtain ⟨f, hf1, hf2⟩ := ih (l.erase t) (by rw [List.length_erase_of_mem ht]; omega) (hn.erase _) (fun s h1 h2 h3 => hr s h1 (fun x hx => ((hmem x).1 (h2 x hx)).2) h3)
    have hN : ((l.erase t).filter fun j => !adj j t).length < m := by
      have := hr (t :: (l.erase t).filter fun j => !adj j t) (by
          refine List.nodup_cons.2 ⟨fun h => ?_, (hn.erase _).filter _⟩
          exact ((hmem t).1 (List.mem_filter.1 h).1).1 rfl)
        (fun x hx => by
          rcases List.mem_cons.1 hx with e | e
          · subst e; exact ht
          · exact ((hmem x).1 (List.mem_filter.1 e).1).2)
        (fun x hx y hy hne => by
          have un : ∀ z, z ∈ (l.erase t).filter (fun j => !adj j t) → adj z t = false ∧ st z ≤ st t := fun z hz => by
            have hz' := List.mem_filter.1 hz
            exact ⟨by simpa using hz'.2, hmax z ((hmem z).1 hz'.1).2⟩
          rcases List.mem_cons.1 hx with e | e <;> rcases List.mem_cons.1 hy with e' | e'
          · exact absurd (e.trans e'.symm) hne
          · subst e; rw [hs]; exact (un y e').1
          · subst e'; exact (un x e).1
          · exact hline x y t (un x e).2 (un y e').2 (un x e).1 (un y e').1 hne)
      simp only [List.length_cons] at this
      omega
    obtain ⟨c, hc1, hc2⟩ := free_colour m (((l.erase t).filter fun j => !adj j t).map f) (by simpa using hN)
    have hfree : ∀ j ∈ l.erase t, f j = c → adj j t = true := by
      intro j hj e
      cases ha : adj j t with
      | true => rfl
      | false =>
        exfalso
        refine hc2 (List.mem_map.2 ⟨j, List.mem_filter.2 ⟨hj, by simp [ha]⟩, e⟩)
    refine ⟨fun i => if i = t then c else f i, fun i hi => ?_, fun i hi k hk hne e => ?_⟩
    · show (if i = t then c else f i) < m
      split
      · exact hc1
      · rename_i h; exact hf1 i ((hmem i).2 ⟨h, hi⟩)
    · replace e : (if i = t then c else f i) = (if k = t then c else f k) := e
      by_cases hi' : i = t
      · subst hi'
        have hk' : k ≠ i := fun e => hne e.symm
        rw [if_pos rfl, if_neg hk'] at e
        rw [hs]
        exact hfree k ((hmem k).2 ⟨hk', hk⟩) e.symm
      · by_cases hk' : k = t
        · subst hk'
          rw [if_neg hi', if_pos rfl] at e
          exact hfree i ((hmem i).2 ⟨hi', hi⟩) e
        · rw [if_neg hi', if_neg hk'] at e
          exact hf2 i ((hmem i).2 ⟨hi', hi⟩) k ((hmem k).2 ⟨hk', hk⟩) hne e
theorem nodup_sub : ∀ (s l : List Nat), s.Nodup → (∀ x ∈ s, x ∈ l) → s.length ≤ l.length
  | [], l, _, _ => by simp
  | a :: s, l, hn, h => by
    have hn' := List.nodup_cons.1 hn
    have ha := h a List.mem_cons_self
    have := nodup_sub s (l.erase a) hn'.2 (fun x hx => (List.mem_erase_of_ne (fun e : x = a => hn'.1 (e ▸ hx))).2 (h x (List.mem_cons_of_mem _ hx)))
    rw [List.length_erase_of_mem ha] at this
    have := List.length_pos_of_mem ha
    simp only [List.length_cons]; omega
/-- duties in one line: as many persons as the best rivals are enough -/
theorem line_best {B : Nat → Nat → Bool} {st : Nat → Int} (hs : ∀ i k, B i k = B k i) {n : Nat}
    (hline : ∀ i k t, st i ≤ st t → st k ≤ st t → B i t = false → B k t = false → i ≠ k → B i k = false) : CovP B (fun i => i < n) (bestR B n (2 ^ n)).length := by
  obtain ⟨f, h1, h2⟩ := line_cover (adj := B) (st := st) hs (bestR B n (2 ^ n)).length hline n (List.range n) (by simp) List.nodup_range (fun s hn hsub hind => by
    have hb := bitsOf_test (fun i => decide (i ∈ s)) n
    have hle := nodup_sub s (nums n (bitsOf (fun i => decide (i ∈ s)) n)) hn (fun x hx => mem_nums.2 ⟨by simpa using hsub x hx, by rw [hb]; simp [hx]; simpa using hsub x hx⟩)
    refine Nat.le_trans hle (bestR_ge (bitsOf_lt _ n) ((rivalB_nums hs).2 fun i k hi hk hne ti tk => ?_))
    rw [hb] at ti tk
    simp at ti tk
    exact hind i ti.2 k tk.2 hne)
  exact ⟨f, fun i hi => h1 i (by simpa using hi), fun i k hi hk hlt e => h2 i (by simpa using hi) k (by simpa using hk) (by omega) e⟩
end Go.Proofs.Ytdbpgfbbkejljaa

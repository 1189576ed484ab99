/- Packing into lanes, in plain words: which ships can be packed, how many, in how many lockings. No condition. -/
namespace Go.Proofs.Ytjfppjhlkeopnaa
set_option linter.unusedVariables false
/-- the first k < n at which f gives something -/
def firstSome {β : Type} (f : Nat → Option β) : Nat → Option β
  | 0 => none
  | k + 1 => match firstSome f k with
    | some y => some y
    | none => f k
theorem firstSome_step {β : Type} {f : Nat → Option β} {k : Nat} (h : firstSome f k = none) (hk : f k = none) : firstSome f (k + 1) = none := by rw [firstSome, h]; exact hk
theorem firstSome_hit {β : Type} {f : Nat → Option β} {k : Nat} {y : β} (h : firstSome f k = none) (hk : f k = some y) : ∀ {n : Nat}, k < n → firstSome f n = some y
  | 0, h1 => by omega
  | n + 1, h1 => by
    rw [firstSome]
    by_cases e : k = n
    · subst e; rw [h]; exact hk
    · rw [firstSome_hit h hk (n := n) (by omega)]
theorem firstSome_isSome {β : Type} {f : Nat → Option β} : ∀ {n : Nat}, (firstSome f n).isSome = true ↔ ∃ k, k < n ∧ (f k).isSome = true
  | 0 => by simp [firstSome]
  | n + 1 => by
    rw [firstSome]
    cases h : firstSome f n with
    | some y =>
      have := (firstSome_isSome (f := f) (n := n)).1 (by rw [h]; rfl)
      obtain ⟨k, hk, hf⟩ := this
      simp only [Option.isSome_some, true_iff]
      exact ⟨k, by omega, hf⟩
    | none =>
      constructor
      · intro h1; exact ⟨n, by omega, h1⟩
      · rintro ⟨k, hk, hf⟩
        by_cases e : k = n
        · subst e; exact hf
        · have := (firstSome_isSome (f := f) (n := n)).2 ⟨k, by omega, hf⟩
          rw [h] at this; cases this
theorem firstSome_some {β : Type} {f : Nat → Option β} {y : β} : ∀ {n : Nat}, firstSome f n = some y → ∃ k, k < n ∧ f k = some y
  | 0, h => by simp [firstSome] at h
  | n + 1, h => by
    rw [firstSome] at h
    cases h2 : firstSome f n with
    | some z => rw [h2] at h; obtain ⟨k, hk, hf⟩ := firstSome_some h2; exact ⟨k, by omega, by rw [hf]; simpa using h⟩
    | none => rw [h2] at h; exact ⟨n, by omega, h⟩

/-- lane j has n more -/
def addAt (u : Nat → Int) (j : Nat) (n : Int) : Nat → Int := fun i => if i = j then u j + n else u i
/-- The first packing of the ships 'ns' into m lanes of length L that are filled to u; d: the lanes that are given. -/
def packL (L : Int) (m : Nat) : List Int → (Nat → Int) → List Int → Option (List Int)
  | [], _, d => some d
  | n :: ns, u, d => firstSome (fun lane => if u lane + n ≤ L then packL L m ns (addAt u lane n) (d ++ [(lane : Int)]) else none) m
def zeroU : Nat → Int := fun _ => 0
/-- The ships can be packed together. -/
def canPack (L : Int) (m : Nat) (ns : List Int) : Bool := (packL L m ns zeroU []).isSome

/-- what the lanes 'as' put into lane j -/
def load : List Int → List Nat → Nat → Int
  | n :: ns, a :: as, j => (if a = j then n else 0) + load ns as j
  | _, _, _ => 0
theorem load_nonneg : ∀ {ns : List Int} {as : List Nat} {j : Nat}, (∀ n ∈ ns, 0 ≤ n) → 0 ≤ load ns as j
  | [], as, j, _ => by simp [load]
  | n :: ns, [], j, _ => by simp [load]
  | n :: ns, a :: as, j, h => by
    have h1 := load_nonneg (ns := ns) (as := as) (j := j) (fun x hx => h x (List.mem_cons_of_mem _ hx))
    have h2 := h n List.mem_cons_self
    rw [load]; split <;> omega
/-- 'as' are lanes for ns -/
def Fits (L : Int) (m : Nat) (ns : List Int) (u : Nat → Int) (as : List Nat) : Prop := as.length = ns.length ∧ (∀ a ∈ as, a < m) ∧ ∀ j, j < m → u j + load ns as j ≤ L
theorem packL_isSome {L : Int} {m : Nat} : ∀ {ns : List Int} {u : Nat → Int} {d : List Int}, (∀ n ∈ ns, 0 ≤ n) → (∀ j, j < m → u j ≤ L) → ((packL L m ns u d).isSome = true ↔ ∃ as, Fits L m ns u as)
  | [], u, d, _, hu => by
    simp only [packL, Option.isSome_some, true_iff]
    exact ⟨[], rfl, by simp, fun j hj => by simp [load]; exact hu j hj⟩
  | n :: ns, u, d, hn, hu => by
    have hn0 := hn n List.mem_cons_self
    have hns : ∀ x ∈ ns, 0 ≤ x := fun x hx => hn x (List.mem_cons_of_mem _ hx)
    rw [packL, firstSome_isSome]
    constructor
    · rintro ⟨k, hk, h⟩
      by_cases h1 : u k + n ≤ L
      · rw [if_pos h1] at h
        have hu' : ∀ j, j < m → addAt u k n j ≤ L := fun j hj => by unfold addAt; split; exact h1; exact hu j hj
        obtain ⟨as, h2, h3, h4⟩ := (packL_isSome hns hu').1 h
        refine ⟨k :: as, by simp [h2], by intro a ha; rcases List.mem_cons.1 ha with rfl | ha; exact hk; exact h3 a ha, fun j hj => ?_⟩
        have := h4 j hj
        rw [load]
        unfold addAt at this
        by_cases e : j = k
        · subst e; simp at this ⊢; omega
        · rw [if_neg e] at this; rw [if_neg (fun h => e h.symm)]; omega
      · rw [if_neg h1] at h; cases h
    · rintro ⟨as, h2, h3, h4⟩
      match as, h2, h3, h4 with
      | k :: as, h2, h3, h4 =>
        have hk := h3 k List.mem_cons_self
        have h1 : u k + n ≤ L := by
          have := h4 k hk
          rw [load, if_pos rfl] at this
          have := load_nonneg (ns := ns) (as := as) (j := k) hns
          omega
        refine ⟨k, hk, ?_⟩
        rw [if_pos h1]
        have hu' : ∀ j, j < m → addAt u k n j ≤ L := fun j hj => by unfold addAt; split; exact h1; exact hu j hj
        refine (packL_isSome hns hu').2 ⟨as, by simpa using h2, fun a ha => h3 a (List.mem_cons_of_mem _ ha), fun j hj => ?_⟩
        have := h4 j hj
        rw [load] at this
        unfold addAt
        by_cases e : j = k
        · subst e; rw [if_pos rfl]; simp at this; omega
        · rw [if_neg e]; rw [if_neg (fun h => e h.symm)] at this; omega
/-- What packL gives: lanes that fit, behind those that were given. -/
theorem packL_some {L : Int} {m : Nat} : ∀ {ns : List Int} {u : Nat → Int} {d ys : List Int}, packL L m ns u d = some ys → ∃ as : List Nat, ys = d ++ as.map (fun a : Nat => (a : Int)) ∧ as.length = ns.length ∧ (∀ a ∈ as, a < m) ∧
    ∀ k (h : k < ns.length) (h2 : k < as.length), u as[k] + load (ns.take (k + 1)) (as.take (k + 1)) as[k] ≤ L
  | [], u, d, ys, h => by
    simp only [packL, Option.some.injEq] at h
    exact ⟨[], by simp [h], rfl, by simp, fun k h => by simp at h⟩
  | n :: ns, u, d, ys, h => by
    rw [packL] at h
    obtain ⟨k, hk, h1⟩ := firstSome_some h
    by_cases h2 : u k + n ≤ L
    · rw [if_pos h2] at h1
      obtain ⟨as, rfl, hl, hm, hf⟩ := packL_some h1
      refine ⟨k :: as, by simp, by simp [hl], by intro a ha; rcases List.mem_cons.1 ha with rfl | ha; exact hk; exact hm a ha, fun i hi hi2 => ?_⟩
      cases i with
      | zero => simp [load]; omega
      | succ i =>
        have := hf i (by simpa using hi) (by simpa using hi2)
        simp only [List.getElem_cons_succ, List.take_succ_cons, load]
        unfold addAt at this
        by_cases e : as[i]'(by simpa using hi2) = k
        · rw [if_pos e] at this; rw [if_pos e.symm, e]; rw [e] at this; omega
        · rw [if_neg e] at this; rw [if_neg (fun h => e h.symm)]; omega
    · rw [if_neg h2] at h1; cases h1
theorem packL_len {L : Int} {m : Nat} {ns : List Int} {u : Nat → Int} {d ys : List Int} (h : packL L m ns u d = some ys) : ys.length = d.length + ns.length := by
  obtain ⟨as, rfl, hl, _⟩ := packL_some h
  simp [hl]
theorem canPack_iff {L : Int} {m : Nat} {ns : List Int} (hn : ∀ n ∈ ns, 0 ≤ n) (hL : 0 ≤ L) : canPack L m ns = true ↔ ∃ as, Fits L m ns zeroU as := packL_isSome hn (fun _ _ => hL)
end Go.Proofs.Ytjfppjhlkeopnaa

/- How many ships can be packed together, in plain words: the most of any choice of ships are the most of the shortest ones. No condition. -/
import Derived.Test.YtjfppjhlkeopnaaPackL
namespace Go.Proofs.Ytjfppjhlkeopnaa
set_option linter.unusedVariables false
/-- the ships that a set names, given as bits -/
def subL : List Int → Nat → List Int
  | [], _ => []
  | x :: xs, b => if b % 2 = 1 then x :: subL xs (b / 2) else subL xs (b / 2)
theorem subL_snoc : ∀ (xs : List Int) (x : Int) (b : Nat), subL (xs ++ [x]) b = subL xs b ++ if b / 2 ^ xs.length % 2 = 1 then [x] else []
  | [], x, b => by simp [subL]
  | y :: xs, x, b => by
    have e : b / 2 ^ (xs.length + 1) = b / 2 / 2 ^ xs.length := by rw [Nat.pow_succ, Nat.mul_comm, Nat.div_div_eq_div_mul]
    simp only [List.cons_append, subL, List.length_cons, e]
    rw [subL_snoc xs x (b / 2)]
    split <;> simp
theorem subL_sub : ∀ (xs : List Int) (b : Nat), (subL xs b).Sublist xs
  | [], b => List.Sublist.refl _
  | x :: xs, b => by
    rw [subL]; split
    · exact (subL_sub xs (b / 2)).cons_cons x
    · exact (subL_sub xs (b / 2)).cons x
theorem subL_of {xs ys : List Int} (h : ys.Sublist xs) : ∃ b, b < 2 ^ xs.length ∧ subL xs b = ys := by
  induction h with
  | slnil => exact ⟨0, by simp, rfl⟩
  | @cons ys xs x h ih =>
    obtain ⟨b, hb, e⟩ := ih
    refine ⟨2 * b, by rw [List.length_cons, Nat.pow_succ]; omega, ?_⟩
    rw [subL, if_neg (by omega), show 2 * b / 2 = b by omega, e]
  | @cons_cons ys xs x h ih =>
    obtain ⟨b, hb, e⟩ := ih
    refine ⟨2 * b + 1, by rw [List.length_cons, Nat.pow_succ]; omega, ?_⟩
    rw [subL, if_pos (by omega), show (2 * b + 1) / 2 = b by omega, e]

/-! ### an order of the ships does not matter -/
theorem load_perm {xs ys : List Int} (h : xs.Perm ys) : ∀ as : List Nat, as.length = xs.length → ∃ bs : List Nat, bs.length = ys.length ∧ (∀ a, a ∈ bs → a ∈ as) ∧ ∀ j, load ys bs j = load xs as j := by
  induction h with
  | nil => intro as _; exact ⟨[], rfl, by simp, fun j => by simp [load]⟩
  | cons x _ ih =>
    intro as hl
    match as, hl with
    | a :: as, hl =>
      obtain ⟨bs, h1, h2, h3⟩ := ih as (by simpa using hl)
      refine ⟨a :: bs, by simp [h1], ?_, fun j => by rw [load, load, h3]⟩
      intro c hc
      rcases List.mem_cons.1 hc with rfl | hc
      · exact List.mem_cons_self
      · exact List.mem_cons_of_mem _ (h2 c hc)
  | swap x y l =>
    intro as hl
    match as, hl with
    | a :: b :: as, hl =>
      refine ⟨b :: a :: as, by simpa using hl, ?_, fun j => by simp only [load]; omega⟩
      intro c hc
      simp only [List.mem_cons] at hc ⊢
      rcases hc with h | h | h
      · exact .inr (.inl h)
      · exact .inl h
      · exact .inr (.inr h)
  | trans _ _ ih1 ih2 =>
    intro as hl
    obtain ⟨bs, h1, h2, h3⟩ := ih1 as hl
    obtain ⟨cs, h4, h5, h6⟩ := ih2 bs h1
    exact ⟨cs, h4, fun a ha => h2 a (h5 a ha), fun j => (h6 j).trans (h3 j)⟩
theorem Fits.perm {L : Int} {m : Nat} {xs ys : List Int} {u : Nat → Int} (h : xs.Perm ys) {as : List Nat} (hf : Fits L m xs u as) : ∃ bs, Fits L m ys u bs := by
  obtain ⟨h1, h2, h3⟩ := hf
  obtain ⟨bs, g1, g2, g3⟩ := load_perm h as h1
  exact ⟨bs, g1, fun a ha => h2 a (g2 a ha), fun j hj => by rw [g3]; exact h3 j hj⟩

/-! ### shorter ships -/
def Dom : List Int → List Int → Prop
  | [], [] => True
  | x :: xs, y :: ys => x ≤ y ∧ Dom xs ys
  | _, _ => False
theorem Dom.refl : ∀ xs, Dom xs xs
  | [] => trivial
  | x :: xs => ⟨Int.le_refl _, Dom.refl xs⟩
theorem Dom.trans : ∀ {xs ys zs}, Dom xs ys → Dom ys zs → Dom xs zs
  | [], [], [], _, _ => trivial
  | x :: xs, y :: ys, z :: zs, h, k => ⟨Int.le_trans h.1 k.1, Dom.trans h.2 k.2⟩
theorem Dom.length : ∀ {xs ys}, Dom xs ys → xs.length = ys.length
  | [], [], _ => rfl
  | x :: xs, y :: ys, h => by simp [Dom.length h.2]
theorem Dom.load : ∀ {xs ys}, Dom xs ys → ∀ (as : List Nat) (j : Nat), load xs as j ≤ load ys as j
  | [], [], _, as, j => Int.le_refl _
  | x :: xs, y :: ys, h, [], j => by simp [Go.Proofs.Ytjfppjhlkeopnaa.load]
  | x :: xs, y :: ys, h, a :: as, j => by
    have := Dom.load h.2 as j
    have := h.1
    simp only [Go.Proofs.Ytjfppjhlkeopnaa.load]; split <;> omega
theorem Fits.dom {L : Int} {m : Nat} {xs ys : List Int} {u : Nat → Int} (h : Dom xs ys) {as : List Nat} (hf : Fits L m ys u as) : Fits L m xs u as :=
  ⟨hf.1.trans h.length.symm, hf.2.1, fun j hj => Int.le_trans (by have := h.load as j; omega) (hf.2.2 j hj)⟩
theorem dom_shift : ∀ (s : List Int) (a : Int) (k : Nat), (a :: s).Pairwise (· ≤ ·) → k ≤ s.length → Dom ((a :: s).take k) (s.take k)
  | s, a, 0, _, _ => by simp [Dom]
  | [], a, k + 1, _, h => by simp at h
  | b :: s, a, k + 1, hp, h => by
    rw [List.take_succ_cons, List.take_succ_cons]
    have h1 := List.pairwise_cons.1 hp
    exact ⟨h1.1 b List.mem_cons_self, dom_shift s b k h1.2 (by simpa using h)⟩
theorem dom_sub {t s : List Int} (h : t.Sublist s) (hs : s.Pairwise (· ≤ ·)) : Dom (s.take t.length) t := by
  induction h with
  | slnil => simp [Dom]
  | @cons t s a h ih =>
    have hs' := (List.pairwise_cons.1 hs).2
    exact (dom_shift s a t.length hs h.length_le).trans (ih hs')
  | @cons_cons t s a h ih => exact ⟨Int.le_refl _, ih (List.pairwise_cons.1 hs).2⟩
theorem sub_perm {s l : List Int} (h : s.Perm l) : ∀ {t : List Int}, t.Sublist s → ∃ t', t'.Sublist l ∧ t.Perm t' := by
  induction h with
  | nil => intro t ht; exact ⟨t, ht, List.Perm.refl _⟩
  | @cons x s l _ ih =>
    intro t ht
    cases ht with
    | cons _ ht => obtain ⟨t', h1, h2⟩ := ih ht; exact ⟨t', h1.cons x, h2⟩
    | cons_cons _ ht => obtain ⟨t', h1, h2⟩ := ih ht; exact ⟨x :: t', h1.cons_cons x, h2.cons x⟩
  | @swap x y l =>
    intro t ht
    cases ht with
    | cons _ ht =>
      cases ht with
      | cons _ ht => exact ⟨t, (ht.cons y).cons x, List.Perm.refl _⟩
      | cons_cons _ ht => exact ⟨_, (ht.cons y).cons_cons x, List.Perm.refl _⟩
    | cons_cons _ ht =>
      cases ht with
      | cons _ ht => exact ⟨_, (ht.cons_cons y).cons x, List.Perm.refl _⟩
      | cons_cons _ ht => exact ⟨_, (ht.cons_cons y).cons_cons x, List.Perm.swap _ _ _⟩
  | trans _ _ ih1 ih2 =>
    intro t ht
    obtain ⟨t', h1, h2⟩ := ih1 ht
    obtain ⟨t'', h3, h4⟩ := ih2 h1
    exact ⟨t'', h3, h2.trans h4⟩

/-- the spec's search: sets below b -/
def bestUp (L : Int) (m : Nat) (l : List Int) : Nat → Nat
  | 0 => 0
  | b + 1 => if bestUp L m l b < (subL l b).length ∧ canPack L m (subL l b) = true then (subL l b).length else bestUp L m l b
/-- the program's search: the first n of the sorted ones, from n = N down -/
def bestDown (L : Int) (m : Nat) (s : List Int) : Nat → Nat
  | 0 => 0
  | n + 1 => if canPack L m (s.take (n + 1)) = true then n + 1 else bestDown L m s n
theorem bestUp_ge {L : Int} {m : Nat} {l : List Int} : ∀ {n b : Nat}, b < n → canPack L m (subL l b) = true → (subL l b).length ≤ bestUp L m l n
  | 0, b, h, _ => by omega
  | n + 1, b, h, hp => by
    rw [bestUp]
    by_cases e : b = n
    · subst e
      split
      · exact Nat.le_refl _
      · rename_i h2; simp [hp] at h2; exact h2
    · have := bestUp_ge (l := l) (n := n) (b := b) (by omega) hp
      split <;> omega
theorem bestUp_is {L : Int} {m : Nat} {l : List Int} : ∀ {n : Nat}, bestUp L m l n = 0 ∨ ∃ b, b < n ∧ canPack L m (subL l b) = true ∧ (subL l b).length = bestUp L m l n
  | 0 => .inl rfl
  | n + 1 => by
    rw [bestUp]
    split
    · rename_i h; exact .inr ⟨n, by omega, h.2, rfl⟩
    · rcases bestUp_is (L := L) (m := m) (l := l) (n := n) with h | ⟨b, h1, h2, h3⟩
      · exact .inl h
      · exact .inr ⟨b, by omega, h2, h3⟩
theorem bestDown_ge {L : Int} {m : Nat} {s : List Int} : ∀ {N n : Nat}, n ≤ N → canPack L m (s.take n) = true → n ≤ bestDown L m s N
  | 0, n, h, _ => by omega
  | N + 1, n, h, hp => by
    rw [bestDown]
    by_cases e : n = N + 1
    · subst e; rw [if_pos hp]; omega
    · have := bestDown_ge (N := N) (n := n) (by omega) hp
      split <;> omega
theorem bestDown_is {L : Int} {m : Nat} {s : List Int} : ∀ {N : Nat}, bestDown L m s N ≤ N ∧ (bestDown L m s N = 0 ∨ canPack L m (s.take (bestDown L m s N)) = true)
  | 0 => ⟨Nat.le_refl _, .inl rfl⟩
  | N + 1 => by
    rw [bestDown]
    split
    · rename_i h; exact ⟨Nat.le_refl _, .inr h⟩
    · have := bestDown_is (L := L) (m := m) (s := s) (N := N); exact ⟨by omega, this.2⟩
theorem best_eq {L : Int} {m : Nat} {l s : List Int} (hL : 0 ≤ L) (hn : ∀ n ∈ l, 0 ≤ n) (hp : s.Perm l) (hs : s.Pairwise (· ≤ ·)) : bestUp L m l (2 ^ l.length) = bestDown L m s s.length := by
  have hns : ∀ n ∈ s, 0 ≤ n := fun n h => hn n (hp.mem_iff.1 h)
  apply Nat.le_antisymm
  · rcases bestUp_is (L := L) (m := m) (l := l) (n := 2 ^ l.length) with h | ⟨b, h1, h2, h3⟩
    · omega
    · have hsub := subL_sub l b
      obtain ⟨t, ht, hpt⟩ := sub_perm hp.symm hsub
      obtain ⟨as, ha⟩ := (canPack_iff (fun n h => hn n (hsub.subset h)) hL).1 h2
      obtain ⟨bs, hb⟩ := ha.perm hpt
      have hd := hb.dom (dom_sub ht hs)
      rw [← h3, hpt.length_eq]
      refine bestDown_ge ht.length_le ?_
      exact (canPack_iff (fun n h => hns n (List.mem_of_mem_take h)) hL).2 ⟨_, hd⟩
  · obtain ⟨h1, h2⟩ := bestDown_is (L := L) (m := m) (s := s) (N := s.length)
    rcases h2 with h2 | h2
    · omega
    · obtain ⟨t, ht, hpt⟩ := sub_perm hp (List.take_sublist (bestDown L m s s.length) s)
      obtain ⟨b, hb, hbe⟩ := subL_of ht
      obtain ⟨as, ha⟩ := (canPack_iff (fun n h => hns n (List.mem_of_mem_take h)) hL).1 h2
      obtain ⟨bs, hbs⟩ := ha.perm hpt
      have hlen : t.length = bestDown L m s s.length := by rw [← hpt.length_eq, List.length_take]; omega
      rw [← hlen, ← hbe]
      refine bestUp_ge hb ?_
      rw [hbe]
      exact (canPack_iff (fun n h => hn n (ht.subset h)) hL).2 ⟨_, hbs⟩
end Go.Proofs.Ytjfppjhlkeopnaa

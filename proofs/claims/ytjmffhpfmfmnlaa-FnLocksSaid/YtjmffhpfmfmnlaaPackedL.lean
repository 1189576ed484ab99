/- Laws of packing, in plain words: what the least number of lockings has to do with the others. No condition. -/
import Derived.Test.YtjmffhpfmfmnlaaBitsL
namespace Go.Proofs.Ytjmffhpfmfmnlaa
set_option linter.unusedVariables false
theorem subL_zero : ∀ l : List Int, subL l 0 = []
  | [] => rfl
  | x :: xs => by rw [subL, if_neg (by omega)]; exact subL_zero xs
theorem subL_split : ∀ (l : List Int) {q s : Nat}, Part q s → (subL l q).length + (subL l (s - q)).length = (subL l s).length
  | [], q, s, h => rfl
  | x :: xs, q, s, h => by
    obtain ⟨h1, h2⟩ := part_two.1 h
    have hle := h.le
    have hl := h1.le
    have ih := subL_split xs h1
    have e : (s - q) / 2 = s / 2 - q / 2 := by
      by_cases a : q % 2 = 1
      · have b := h2 a; omega
      · omega
    simp only [subL, e]
    by_cases a : q % 2 = 1
    · have b := h2 a
      rw [if_pos a, if_pos b, if_neg (show ¬ (s - q) % 2 = 1 by omega)]
      simp only [List.length_cons]; omega
    · rw [if_neg a]
      by_cases b : s % 2 = 1
      · rw [if_pos b, if_pos (show (s - q) % 2 = 1 by omega)]
        simp only [List.length_cons]; omega
      · rw [if_neg b, if_neg (show ¬ (s - q) % 2 = 1 by omega)]; exact ih
theorem subL_all : ∀ l : List Int, subL l (2 ^ l.length - 1) = l
  | [] => rfl
  | x :: xs => by
    have hp := Nat.two_pow_pos xs.length
    rw [subL, List.length_cons, Nat.pow_succ, if_pos (by omega), show (2 ^ xs.length * 2 - 1) / 2 = 2 ^ xs.length - 1 by omega, subL_all xs]
theorem subL_low : ∀ (l : List Int) (n : Nat), n ≤ l.length → subL l (2 ^ n - 1) = l.take n
  | l, 0, _ => by simp [subL_zero]
  | [], n + 1, h => by simp at h
  | x :: xs, n + 1, h => by
    have hp := Nat.two_pow_pos n
    rw [subL, Nat.pow_succ, if_pos (by omega), show (2 ^ n * 2 - 1) / 2 = 2 ^ n - 1 by omega, subL_low xs n (by simpa using h)]
    rfl
theorem subL_mid : ∀ (l : List Int) (i n : Nat), i + n ≤ l.length → subL l (2 ^ (i + n) - 2 ^ i) = (l.drop i).take n
  | l, 0, n, h => by rw [Nat.zero_add]; exact subL_low l n (by omega)
  | [], i + 1, n, h => by simp at h
  | x :: xs, i + 1, n, h => by
    have hp := Nat.two_pow_pos i
    have hq := Nat.pow_le_pow_right (show 0 < 2 by omega) (show i ≤ i + n by omega)
    have e : 2 ^ (i + 1 + n) = 2 ^ (i + n) * 2 := by rw [show i + 1 + n = i + n + 1 by omega, Nat.pow_succ]
    rw [subL, e, Nat.pow_succ, if_neg (by omega), show (2 ^ (i + n) * 2 - 2 ^ i * 2) / 2 = 2 ^ (i + n) - 2 ^ i by omega, subL_mid xs i n (by simp at h; omega)]
    rfl
theorem part_low : ∀ (j : Nat) {a b c : Nat}, a ≤ b → b ≤ c → Part (2 ^ b - 2 ^ a) (2 ^ c - 2 ^ a) := by
  intro j a
  induction a with
  | zero =>
    intro b
    induction b with
    | zero => intro c _ _; exact part_zero _
    | succ b ih =>
      intro c h1 h2
      match c, h2 with
      | c + 1, h2 =>
        have hp := Nat.two_pow_pos b
        have hc := Nat.two_pow_pos c
        rw [part_two]
        have := ih (c := c) (by omega) (by omega)
        rw [Nat.pow_succ, Nat.pow_succ, show (2 ^ b * 2 - 2 ^ 0) / 2 = 2 ^ b - 2 ^ 0 by simp; omega, show (2 ^ c * 2 - 2 ^ 0) / 2 = 2 ^ c - 2 ^ 0 by simp; omega]
        exact ⟨this, fun _ => by simp; omega⟩
  | succ a ih =>
    intro b c h1 h2
    match b, c, h1, h2 with
    | b + 1, c + 1, h1, h2 =>
      have hab := Nat.pow_le_pow_right (show 0 < 2 by omega) (show a ≤ b by omega)
      have hbc := Nat.pow_le_pow_right (show 0 < 2 by omega) (show b ≤ c by omega)
      rw [part_two]
      have := ih (b := b) (c := c) (by omega) (by omega)
      rw [Nat.pow_succ, Nat.pow_succ, Nat.pow_succ, show (2 ^ b * 2 - 2 ^ a * 2) / 2 = 2 ^ b - 2 ^ a by omega, show (2 ^ c * 2 - 2 ^ a * 2) / 2 = 2 ^ c - 2 ^ a by omega]
      exact ⟨this, fun h => by omega⟩

section
variable {L : Int} {m : Nat} {l : List Int}
abbrev fitB (L : Int) (m : Nat) (l : List Int) (b : Nat) : Bool := canPack L m (subL l b)
theorem canPack_one (hm : 1 ≤ m) {x : Int} (h0 : 0 ≤ x) (h1 : x ≤ L) : canPack L m [x] = true := by
  refine (canPack_iff (by simpa using h0) (by omega)).2 ⟨[0], rfl, by intro a ha; simp at ha; omega, fun j hj => ?_⟩
  simp only [load, zeroU]; split <;> omega
theorem canPack_nil (L : Int) (m : Nat) : canPack L m [] = true := rfl
theorem canPack_take1 (hm : 1 ≤ m) (hn : ∀ n ∈ l, 0 ≤ n ∧ n ≤ L) : canPack L m (l.take 1) = true := by
  match l, hn with
  | [], _ => rfl
  | x :: xs, hn => have := hn x List.mem_cons_self; exact canPack_one hm this.1 this.2
/-- the lockings in order are no fewer than the least number -/
theorem least_le_pref (hm : 1 ≤ m) (hn : ∀ n ∈ l, 0 ≤ n ∧ n ≤ L) (len : Int) : ∀ (d i : Nat), i + d = l.length → leastF (fitB L m l) len (2 ^ l.length - 2 ^ i) ≤ ((prefL L m (l.drop i)).length : Int) := by
  intro d
  induction d using Nat.strongRecOn with
  | _ d ih =>
    intro i hi
    by_cases h0 : d = 0
    · obtain rfl : i = l.length := by omega
      rw [Nat.sub_self, leastF_zero]; omega
    · have hlen : (l.drop i).length = d := by simp; omega
      have hg1 := growN_ge (L := L) (m := m) (ns := l.drop i) (n := 1)
      have hg2 := growN_le (L := L) (m := m) (ns := l.drop i) (n := 1) (by omega)
      have hnd : ∀ n ∈ l.drop i, 0 ≤ n ∧ n ≤ L := fun n h => hn n (List.mem_of_mem_drop h)
      have hgp := growN_packs (L := L) (m := m) (ns := l.drop i) (n := 1) (canPack_take1 hm hnd)
      rw [prefL_cons (by omega)]
      obtain ⟨g, hg⟩ : ∃ g, growN L m (l.drop i) 1 = g := ⟨_, rfl⟩
      rw [hg] at hg1 hg2 hgp ⊢
      have hij := Nat.pow_lt_pow_right (show 1 < 2 by omega) (show i < i + g by omega)
      have hjl := Nat.pow_le_pow_right (show 0 < 2 by omega) (show i + g ≤ l.length by omega)
      have hfit : fitB L m l (2 ^ (i + g) - 2 ^ i) = true := by
        show canPack L m (subL l _) = true
        rw [subL_mid l i g (by omega)]; exact hgp
      have h1 := leastF_le (len := len) (part_low 0 (show i ≤ i + g by omega) (show i + g ≤ l.length by omega)) (by omega) hfit
      have e : 2 ^ l.length - 2 ^ i - (2 ^ (i + g) - 2 ^ i) = 2 ^ l.length - 2 ^ (i + g) := by omega
      rw [e] at h1
      have h2 := ih (d - g) (by omega) (i + g) (by omega)
      rw [List.drop_drop, List.length_cons]
      rw [show i + g = g + i by omega] at *
      simp only [Nat.add_comm] at *
      omega
theorem pop_le (hm : 1 ≤ m) (hL : 0 ≤ L) (hn : ∀ n ∈ l, 0 ≤ n ∧ n ≤ L) {best : Nat} (hb : best = bestUp L m l (2 ^ l.length)) : ∀ s : Nat, s < 2 ^ l.length → ((subL l s).length : Int) ≤ leastF (fitB L m l) l.length s * best := by
  intro s
  induction s using Nat.strongRecOn with
  | _ s ih =>
    intro hs
    by_cases h0 : s = 0
    · subst h0; rw [subL_zero, leastF_zero]; simp
    · rcases leastF_is (fit := fitB L m l) (len := l.length) h0 with h | ⟨q, hq0, hq, hf, h⟩
      · rw [h]
        have h1 := (subL_sub l s).length_le
        by_cases hl : l.length = 0
        · have : (subL l s).length = 0 := by omega
          rw [this, hl]; simp
        · have h2 : 1 ≤ best := by
            have := bestUp_ge (L := L) (m := m) (l := l) (n := 2 ^ l.length) (b := 1) (Nat.one_lt_two_pow (by omega)) (by
              have := subL_low l 1 (by omega)
              rw [show 2 ^ 1 - 1 = 1 by rfl] at this
              rw [this]; exact canPack_take1 hm hn)
            have e := subL_low l 1 (by omega)
            rw [show 2 ^ 1 - 1 = 1 by rfl] at e
            rw [e, List.length_take] at this
            omega
          have h3 : (l.length : Int) * 1 ≤ l.length * best := Int.mul_le_mul_of_nonneg_left (by omega) (by omega)
          omega
      · have hle := hq.le
        have h1 := subL_split l hq
        have h2 := ih (s - q) (by omega) (by omega)
        have h3 := bestUp_ge (L := L) (m := m) (l := l) (n := 2 ^ l.length) (b := q) (by omega) hf
        rw [h, Int.add_mul, Int.one_mul]
        omega
theorem canPack_perm (hL : 0 ≤ L) (hn : ∀ n ∈ l, 0 ≤ n) {s : List Int} (hp : s.Perm l) : canPack L m s = canPack L m l := by
  rw [Bool.eq_iff_iff, canPack_iff (fun n h => hn n (hp.mem_iff.1 h)) hL, canPack_iff hn hL]
  exact ⟨fun ⟨_, h⟩ => h.perm hp, fun ⟨_, h⟩ => h.perm hp.symm⟩
/-- all ships together just where the most are all -/
theorem most_all (hL : 0 ≤ L) (hn : ∀ n ∈ l, 0 ≤ n) {s : List Int} (hp : s.Perm l) : canPack L m l = true ↔ bestDown L m s s.length = l.length := by
  rw [← canPack_perm hL hn hp]
  have h := bestDown_is (L := L) (m := m) (s := s) (N := s.length)
  constructor
  · intro h1
    have := bestDown_ge (L := L) (m := m) (s := s) (N := s.length) (n := s.length) (Nat.le_refl _) (by rw [List.take_length]; exact h1)
    have := hp.length_eq; omega
  · intro h1
    have hl := hp.length_eq
    rcases h.2 with h2 | h2
    · have : s = [] := List.eq_nil_of_length_eq_zero (by omega)
      subst this; rfl
    · rw [h1, ← hl, List.take_length] at h2; exact h2
theorem least_one (hm : 1 ≤ m) (hn : ∀ n ∈ l, 0 ≤ n ∧ n ≤ L) : leastF (fitB L m l) l.length (2 ^ l.length - 1) ≤ 1 ↔ canPack L m l = true := by
  have hp := Nat.two_pow_pos l.length
  constructor
  · intro h
    by_cases hl : l.length = 0
    · rw [List.eq_nil_of_length_eq_zero hl]; rfl
    · have h2 := Nat.one_lt_two_pow (show l.length ≠ 0 by omega)
      rcases leastF_is (fit := fitB L m l) (len := l.length) (show 2 ^ l.length - 1 ≠ 0 by omega) with h3 | ⟨q, hq0, hq, hf, h3⟩
      · have : l.length = 1 := by omega
        have := canPack_take1 hm hn
        rwa [List.take_of_length_le (by omega)] at this
      · rw [h3] at h
        by_cases e : 2 ^ l.length - 1 - q = 0
        · have := hq.le
          have : q = 2 ^ l.length - 1 := by omega
          subst this
          have hf : canPack L m (subL l _) = true := hf
          rwa [subL_all] at hf
        · exfalso
          rcases leastF_is (fit := fitB L m l) (len := l.length) e with h4 | ⟨q2, _, _, _, h4⟩
          · omega
          · have := (leastF_bd (fitB L m l) l.length (by omega) (2 ^ l.length - 1 - q - q2)).1; omega
  · intro h
    by_cases e : 2 ^ l.length - 1 = 0
    · rw [e, leastF_zero]; omega
    · have := leastF_le (fit := fitB L m l) (len := l.length) (part_refl (2 ^ l.length - 1)) e (by show canPack L m (subL l _) = true; rw [subL_all]; exact h)
      rw [Nat.sub_self, leastF_zero] at this; omega
end
end Go.Proofs.Ytjmffhpfmfmnlaa

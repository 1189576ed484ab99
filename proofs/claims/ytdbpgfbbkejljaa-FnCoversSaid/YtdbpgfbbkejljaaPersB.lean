/- The least number of persons over all sets that bits name, and the search for a cover with bits, in plain words. No condition. -/
import Derived.Test.YtdbpgfbbkejljaaPersL
import Derived.Test.YtdbpgfbbkejljaaBitsL
namespace Go.Proofs.Ytdbpgfbbkejljaa
set_option linter.unusedVariables false
/-- the members of a set given as bits -/
abbrev Mem (s : Nat) : Nat → Prop := fun i => s.testBit i = true
theorem mem_lt {s i : Nat} (h : Mem s i) : i < s := Nat.lt_of_lt_of_le Nat.lt_two_pow_self (Nat.ge_two_pow_of_testBit h)
theorem mem_lt2 {s i t : Nat} (h : Mem s i) (hs : s < 2 ^ t) : i < t := by
  rcases Nat.lt_or_ge i t with h1 | h1
  · exact h1
  · have := Nat.testBit_lt_two_pow (x := s) (i := i) (Nat.lt_of_lt_of_le hs (Nat.pow_le_pow_right (by omega) h1))
    have h' : s.testBit i = true := h
    rw [this] at h'; cases h'
theorem leastP_ex (B : Nat → Nat → Bool) (P : Nat → Prop) : ∀ k, CovP B P k → ∃ m, LeastP B P m := by
  intro k
  induction k using Nat.strongRecOn with
  | _ k ih =>
    intro h
    by_cases hm : ∃ m, m < k ∧ CovP B P m
    · obtain ⟨m, hlt, hc⟩ := hm; exact ih m hlt hc
    · exact ⟨k, h, fun m' hc => by
        rcases Nat.lt_or_ge m' k with h1 | h1
        · exact absurd ⟨m', h1, hc⟩ hm
        · exact h1⟩
theorem LeastP.uniq {B : Nat → Nat → Bool} {P : Nat → Prop} {a b : Nat} (h : LeastP B P a) (h' : LeastP B P b) : a = b := by
  have := h.2 _ h'.1
  have := h'.2 _ h.1
  omega
theorem CovP.iff {B : Nat → Nat → Bool} {P Q : Nat → Prop} {m : Nat} (h : ∀ i, P i ↔ Q i) : CovP B P m ↔ CovP B Q m := ⟨fun k => k.congr fun i => (h i).2, fun k => k.congr fun i => (h i).1⟩
theorem LeastP.iff {B : Nat → Nat → Bool} {P Q : Nat → Prop} {m : Nat} (h : ∀ i, P i ↔ Q i) : LeastP B P m ↔ LeastP B Q m :=
  ⟨fun k => ⟨(CovP.iff h).1 k.1, fun m' hc => k.2 m' ((CovP.iff h).2 hc)⟩, fun k => ⟨(CovP.iff h).2 k.1, fun m' hc => k.2 m' ((CovP.iff h).1 hc)⟩⟩
theorem least_fun (B : Nat → Nat → Bool) : ∃ lf : Nat → Nat, ∀ s, LeastP B (Mem s) (lf s) :=
  ⟨fun s => Classical.choose (leastP_ex B (Mem s) s (CovP.id B _ fun i h => mem_lt h)), fun s => Classical.choose_spec (leastP_ex B (Mem s) s (CovP.id B _ fun i h => mem_lt h))⟩
theorem clq_fun (B : Nat → Nat → Bool) : ∃ cl : Nat → Bool, ∀ s, cl s = true ↔ Clq B (Mem s) := by
  classical
  exact ⟨fun s => decide (Clq B (Mem s)), fun s => by simp⟩
theorem mem_add {t r i : Nat} (h : r < 2 ^ t) : (r + 2 ^ t).testBit i = (r.testBit i || decide (i = t)) := by
  rw [Nat.add_comm]
  rcases Nat.lt_trichotomy i t with h2 | h2 | h2
  · rw [Nat.testBit_two_pow_add_gt h2]; simp [show i ≠ t by omega]
  · subst h2; rw [Nat.testBit_two_pow_add_eq, Nat.testBit_lt_two_pow h]; simp
  · rw [Nat.testBit_lt_two_pow (x := 2 ^ t + r) (Nat.lt_of_lt_of_le (show 2 ^ t + r < 2 ^ (t + 1) by rw [Nat.pow_succ]; omega) (Nat.pow_le_pow_right (by omega) h2)), Nat.testBit_lt_two_pow (x := r) (Nat.lt_of_lt_of_le h (Nat.pow_le_pow_right (by omega) (by omega)))]
    simp; omega
theorem mem_add_iff {t r i : Nat} (h : r < 2 ^ t) : Mem (r + 2 ^ t) i ↔ Mem r i ∨ i = t := by
  show (r + 2 ^ t).testBit i = true ↔ _
  rw [mem_add h]; simp
theorem mem_zero {i : Nat} : ¬ Mem 0 i := by show ¬ (0 : Nat).testBit i = true; rw [Nat.zero_testBit]; simp
theorem cl_zero {B : Nat → Nat → Bool} {cl : Nat → Bool} (h : ∀ s, cl s = true ↔ Clq B (Mem s)) : cl 0 = true := (h 0).2 fun i k hi => absurd hi mem_zero
theorem lf_zero {B : Nat → Nat → Bool} {lf : Nat → Nat} (h : ∀ s, LeastP B (Mem s) (lf s)) : lf 0 = 0 := by
  have := (h 0).2 0 ⟨fun _ => 0, ⟨fun i hi => absurd hi mem_zero, fun i k hi => absurd hi mem_zero⟩⟩
  omega
theorem lf_le {B : Nat → Nat → Bool} {lf : Nat → Nat} (h : ∀ s, LeastP B (Mem s) (lf s)) {n s : Nat} (hs : s < 2 ^ n) : lf s ≤ n := (h s).2 n (CovP.id B _ fun i hi => mem_lt2 hi hs)
/-- a set whose greatest member is t -/
theorem cl_step {B : Nat → Nat → Bool} {cl : Nat → Bool} (h : ∀ s, cl s = true ↔ Clq B (Mem s)) {t r : Nat} (hr : r < 2 ^ t) : cl (r + 2 ^ t) = true ↔ cl r = true ∧ ∀ i, Mem r i → B t i = true := by
  rw [h, h]
  constructor
  · intro hc
    exact ⟨fun i k hi hk hlt => hc i k ((mem_add_iff hr).2 (.inl hi)) ((mem_add_iff hr).2 (.inl hk)) hlt, fun i hi => hc t i ((mem_add_iff hr).2 (.inr rfl)) ((mem_add_iff hr).2 (.inl hi)) (mem_lt2 hi hr)⟩
  · rintro ⟨h1, h2⟩ i k hi hk hlt
    rcases (mem_add_iff hr).1 hi with a | a
    · rcases (mem_add_iff hr).1 hk with b | b
      · exact h1 i k a b hlt
      · have := mem_lt2 a hr; omega
    · subst a
      rcases (mem_add_iff hr).1 hk with b | b
      · exact h2 k b
      · omega
/-- the parts of r that are greater than p have been seen -/
def SeenTo (B : Nat → Nat → Bool) (cl : Nat → Bool) (lf : Nat → Nat) (t r p a : Nat) : Prop := CovP B (Mem (r + 2 ^ t)) a ∧ ∀ q, Part q r → p < q → cl (q + 2 ^ t) = true → a ≤ 1 + lf (r - q)
theorem seen_start {B : Nat → Nat → Bool} {cl : Nat → Bool} {lf : Nat → Nat} {t r n : Nat} (hr : r < 2 ^ t) (hn : t < n) : SeenTo B cl lf t r r n :=
  ⟨CovP.id B _ (fun i hi => by rcases (mem_add_iff hr).1 hi with a | a; (have := mem_lt2 a hr; omega); omega), fun q hq hlt => by have := hq.le; omega⟩
/-- this part has been seen too -/
def SeenAt (B : Nat → Nat → Bool) (cl : Nat → Bool) (lf : Nat → Nat) (t r p a : Nat) : Prop := CovP B (Mem (r + 2 ^ t)) a ∧ ∀ q, Part q r → p ≤ q → cl (q + 2 ^ t) = true → a ≤ 1 + lf (r - q)
theorem seen_no {B : Nat → Nat → Bool} {cl : Nat → Bool} {lf : Nat → Nat} {t r p a : Nat} (h : SeenTo B cl lf t r p a) (hc : cl (p + 2 ^ t) = false) : SeenAt B cl lf t r p a :=
  ⟨h.1, fun q hq hle hcl => by
    rcases Nat.lt_or_ge p q with h1 | h1
    · exact h.2 q hq h1 hcl
    · obtain rfl : q = p := by omega
      rw [hc] at hcl; cases hcl⟩
theorem part_lt {p r t : Nat} (h : Part p r) (hr : r < 2 ^ t) : p < 2 ^ t := Nat.lt_of_le_of_lt h.le hr
theorem mem_sub {p r i : Nat} (h : Part p r) : Mem (r - p) i ↔ Mem r i ∧ ¬ Mem p i := by
  show (r - p).testBit i = true ↔ _
  rw [part_sub h]; simp
theorem seen_yes {B : Nat → Nat → Bool} {cl : Nat → Bool} {lf : Nat → Nat} (hcl : ∀ s, cl s = true ↔ Clq B (Mem s)) (hlf : ∀ s, LeastP B (Mem s) (lf s)) {t r p a : Nat} (hr : r < 2 ^ t) (h : SeenTo B cl lf t r p a) (hp : Part p r) (hc : cl (p + 2 ^ t) = true) : SeenAt B cl lf t r p (min a (1 + lf (r - p))) := by
  refine ⟨?_, fun q hq hle hq2 => ?_⟩
  · by_cases hm : a ≤ 1 + lf (r - p)
    · rw [Nat.min_eq_left hm]; exact h.1
    · rw [Nat.min_eq_right (by omega), show 1 + lf (r - p) = lf (r - p) + 1 by omega]
      have hadd := CovP.add (B := B) (R := Mem r) (Q := Mem p) (t := t) (m := lf (r - p)) (fun i k hi hk hlt => (hcl _).1 hc i k ((mem_add_iff (part_lt hp hr)).2 hi) ((mem_add_iff (part_lt hp hr)).2 hk) hlt) ((hlf (r - p)).1.congr fun i hi => (mem_sub hp).2 hi)
      exact hadd.congr fun i hi => (mem_add_iff hr).1 hi
  · rcases Nat.lt_or_ge p q with h1 | h1
    · have := h.2 q hq h1 hq2; omega
    · obtain rfl : q = p := by omega
      omega
theorem seen_next {B : Nat → Nat → Bool} {cl : Nat → Bool} {lf : Nat → Nat} {t r p a : Nat} (h : SeenAt B cl lf t r p a) (hp : Part p r) (h0 : 0 < p) : SeenTo B cl lf t r ((p - 1) &&& r) a :=
  ⟨h.1, fun q hq hlt hc => by
    rcases Nat.lt_or_ge q p with h1 | h1
    · have := part_next r hp hq h1; omega
    · exact h.2 q hq h1 hc⟩
theorem seen_end {B : Nat → Nat → Bool} (hB : ∀ i k, B i k = B k i) {cl : Nat → Bool} {lf : Nat → Nat} (hcl : ∀ s, cl s = true ↔ Clq B (Mem s)) (hlf : ∀ s, LeastP B (Mem s) (lf s)) {t r a : Nat} (hr : r < 2 ^ t) (h : SeenAt B cl lf t r 0 a) : a = lf (r + 2 ^ t) := by
  classical
  refine LeastP.uniq ?_ (hlf (r + 2 ^ t))
  rw [LeastP.iff (Q := fun i => Mem r i ∨ i = t) (fun i => mem_add_iff hr)]
  refine LeastP.step hB (fun ht => by have := mem_lt2 ht hr; omega) ((CovP.iff fun i => mem_add_iff hr).1 h.1) fun Q hQ hc => ?_
  have hb := bitsOf_test (fun i => decide (Q i)) t
  have hbl := bitsOf_lt (fun i => decide (Q i)) t
  obtain ⟨q, hq⟩ : ∃ q, bitsOf (fun i => decide (Q i)) t = q := ⟨_, rfl⟩
  rw [hq] at hb hbl
  have hmq : ∀ i, Mem q i ↔ Q i := fun i => by
    show q.testBit i = true ↔ _
    rw [hb]
    simp only [Bool.and_eq_true, decide_eq_true_eq]
    exact ⟨fun k => k.2, fun k => ⟨mem_lt2 (hQ i k) hr, k⟩⟩
  have hpq : Part q r := part_iff.2 fun i hi => hQ i ((hmq i).1 hi)
  refine ⟨lf (r - q), ?_, h.2 q hpq (Nat.zero_le _) ((hcl _).2 fun i k hi hk hlt => hc i k ?_ ?_ hlt)⟩
  · refine (LeastP.iff fun i => ?_).1 (hlf (r - q))
    rw [mem_sub hpq, hmq]
  · exact ((mem_add_iff hbl).1 hi).imp (hmq i).1 (fun e => e)
  · exact ((mem_add_iff hbl).1 hk).imp (hmq k).1 (fun e => e)
end Go.Proofs.Ytdbpgfbbkejljaa

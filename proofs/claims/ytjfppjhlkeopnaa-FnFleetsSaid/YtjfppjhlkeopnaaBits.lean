/- The walk's words on bits at small numbers. No condition. -/
import Derived.Test.YtjfppjhlkeopnaaBase
import Derived.IntWalk
namespace Go.Proofs.Ytjfppjhlkeopnaa
set_option linter.unusedVariables false
theorem ofInt64 (a : Nat) (h : a < 4611686018427387904) : (BitVec.ofInt 64 (a : Int)).toNat = a := by
  rw [BitVec.toNat_ofInt]; omega
theorem wrap_i64 (a : Nat) (h : a < 4611686018427387904) : IntKind.i64.wrap (a : Int) = a := IntWalk.i64_in _ (by omega)
theorem wrap_u64 (a : Nat) (h : a < 4611686018427387904) : IntKind.u64.wrap (a : Int) = a := IntWalk.u64_in _ (by omega)
theorem two_pow_cast (k : Nat) : ((2 : Int) ^ k) = ((2 ^ k : Nat) : Int) := by simp
theorem two_pow_lt {k : Nat} (h : k ≤ 40) : 2 ^ k < 4611686018427387904 := Nat.lt_of_le_of_lt (Nat.pow_le_pow_right (by omega) h) (by decide)
theorem or_lt62 {a b : Nat} (ha : a < 4611686018427387904) (hb : b < 4611686018427387904) : a ||| b < 4611686018427387904 := @Nat.or_lt_two_pow a b 62 ha hb
theorem bits_or_i64 (a b : Nat) (ha : a < 4611686018427387904) (hb : b < 4611686018427387904) : bits .or .i64 a b = ((a ||| b : Nat) : Int) := by
  show IntKind.i64.wrap ((BitVec.ofInt 64 (a : Int) ||| BitVec.ofInt 64 (b : Int)).toNat : Int) = _
  rw [BitVec.toNat_or, ofInt64 a ha, ofInt64 b hb, wrap_i64 _ (or_lt62 ha hb)]
theorem bits_or_u64 (a b : Nat) (ha : a < 4611686018427387904) (hb : b < 4611686018427387904) : bits .or .u64 a b = ((a ||| b : Nat) : Int) := by
  show IntKind.u64.wrap ((BitVec.ofInt 64 (a : Int) ||| BitVec.ofInt 64 (b : Int)).toNat : Int) = _
  rw [BitVec.toNat_or, ofInt64 a ha, ofInt64 b hb, wrap_u64 _ (or_lt62 ha hb)]
theorem bits_and_i64 (a b : Nat) (ha : a < 4611686018427387904) (hb : b < 4611686018427387904) : bits .and .i64 a b = ((a &&& b : Nat) : Int) := by
  show IntKind.i64.wrap ((BitVec.ofInt 64 (a : Int) &&& BitVec.ofInt 64 (b : Int)).toNat : Int) = _
  rw [BitVec.toNat_and, ofInt64 a ha, ofInt64 b hb, wrap_i64 _ (Nat.lt_of_le_of_lt Nat.and_le_left ha)]
theorem bits_and_u64 (a b : Nat) (ha : a < 4611686018427387904) (hb : b < 4611686018427387904) : bits .and .u64 a b = ((a &&& b : Nat) : Int) := by
  show IntKind.u64.wrap ((BitVec.ofInt 64 (a : Int) &&& BitVec.ofInt 64 (b : Int)).toNat : Int) = _
  rw [BitVec.toNat_and, ofInt64 a ha, ofInt64 b hb, wrap_u64 _ (Nat.lt_of_le_of_lt Nat.and_le_left ha)]
theorem andNot_lt (a b : Nat) (ha : a < 4611686018427387904) (hb : b < 4611686018427387904) : (BitVec.ofInt 64 (a : Int) &&& ~~~ BitVec.ofInt 64 (b : Int)).toNat ≤ a := by
  rw [BitVec.toNat_and, ofInt64 a ha]; exact Nat.and_le_left
theorem andNot_test (a b : Nat) (ha : a < 4611686018427387904) (hb : b < 4611686018427387904) (k : Nat) : ((BitVec.ofInt 64 (a : Int) &&& ~~~ BitVec.ofInt 64 (b : Int)).toNat).testBit k = (a.testBit k && !b.testBit k) := by
  rw [BitVec.toNat_and, Nat.testBit_and, ofInt64 a ha]
  by_cases hk : k < 64
  · have h1 : (~~~ BitVec.ofInt 64 (b : Int)).toNat.testBit k = !b.testBit k := by
      rw [BitVec.testBit_toNat, BitVec.getLsbD_not, ← BitVec.testBit_toNat, ofInt64 b hb]
      simp [hk]
    rw [h1]
  · rw [Nat.testBit_lt_two_pow (x := a) (Nat.lt_of_lt_of_le ha (Nat.le_trans (by decide : 4611686018427387904 ≤ 2 ^ 64) (Nat.pow_le_pow_right (by omega) (by omega))))]
    simp
theorem andNot_i64 (a b : Nat) (ha : a < 4611686018427387904) (hb : b < 4611686018427387904) : ∃ c : Nat, bits .andNot .i64 a b = (c : Int) ∧ c ≤ a ∧ ∀ k, c.testBit k = (a.testBit k && !b.testBit k) := by
  refine ⟨_, ?_, andNot_lt a b ha hb, andNot_test a b ha hb⟩
  show IntKind.i64.wrap ((BitVec.ofInt 64 (a : Int) &&& ~~~ BitVec.ofInt 64 (b : Int)).toNat : Int) = _
  exact wrap_i64 _ (Nat.lt_of_le_of_lt (andNot_lt a b ha hb) ha)
theorem andNot_u64 (a b : Nat) (ha : a < 4611686018427387904) (hb : b < 4611686018427387904) : ∃ c : Nat, bits .andNot .u64 a b = (c : Int) ∧ c ≤ a ∧ ∀ k, c.testBit k = (a.testBit k && !b.testBit k) := by
  refine ⟨_, ?_, andNot_lt a b ha hb, andNot_test a b ha hb⟩
  show IntKind.u64.wrap ((BitVec.ofInt 64 (a : Int) &&& ~~~ BitVec.ofInt 64 (b : Int)).toNat : Int) = _
  exact wrap_u64 _ (Nat.lt_of_le_of_lt (andNot_lt a b ha hb) ha)
/-- the bit that is asked for -/
theorem bit_i64 (a k : Nat) (ha : a < 4611686018427387904) : bits .and .i64 ((a : Int) / 2 ^ k) 1 = if a.testBit k = true then 1 else 0 := by
  have e : (a : Int) / 2 ^ k = ((a / 2 ^ k : Nat) : Int) := by rw [two_pow_cast]; simp
  have hle : a / 2 ^ k ≤ a := Nat.div_le_self _ _
  rw [e, show (1 : Int) = ((1 : Nat) : Int) from rfl, bits_and_i64 _ 1 (by omega) (by omega), Nat.and_one_is_mod, Nat.testBit_eq_decide_div_mod_eq]
  by_cases h : a / 2 ^ k % 2 = 1
  · rw [h]; simp
  · have : a / 2 ^ k % 2 = 0 := by omega
    rw [this]; simp
theorem bit_u64 (a k : Nat) (ha : a < 4611686018427387904) : bits .and .u64 ((a : Int) / 2 ^ k) 1 = if a.testBit k = true then 1 else 0 := by
  have e : (a : Int) / 2 ^ k = ((a / 2 ^ k : Nat) : Int) := by rw [two_pow_cast]; simp
  have hle : a / 2 ^ k ≤ a := Nat.div_le_self _ _
  rw [e, show (1 : Int) = ((1 : Nat) : Int) from rfl, bits_and_u64 _ 1 (by omega) (by omega), Nat.and_one_is_mod, Nat.testBit_eq_decide_div_mod_eq]
  by_cases h : a / 2 ^ k % 2 = 1
  · rw [h]; simp
  · have : a / 2 ^ k % 2 = 0 := by omega
    rw [this]; simp
end Go.Proofs.Ytjfppjhlkeopnaa

/- The library's bits.Len, entered with its own text. No condition. -/
import Derived.Test.YtdbpgfbbkejljaaChecked
import Derived.Lib.Strings
import Derived.Lib.Slices
import Derived.Lib.Small
import Derived.Lib.Walk
import Derived.Lib.BitFns
namespace Go.Proofs.Ytdbpgfbbkejljaa

set_option linter.unusedVariables false
theorem bitLen_aux : ∀ (f x : Nat), x < 2 ^ f → x < 2 ^ Lib.bitLenAux f x ∧ (x ≠ 0 → 2 ^ (Lib.bitLenAux f x - 1) ≤ x ∧ 0 < Lib.bitLenAux f x)
  | 0, x, h => by simp at h; subst h; simp [Lib.bitLenAux]
  | f + 1, x, h => by
    rw [Lib.bitLenAux]
    split
    · rename_i e; subst e; simp
    · rename_i e
      rw [Nat.pow_succ] at h
      obtain ⟨h1, h2⟩ := bitLen_aux f (x / 2) (by omega)
      refine ⟨?_, fun _ => ⟨?_, by omega⟩⟩
      · rw [Nat.add_comm, Nat.pow_succ]; omega
      · by_cases e2 : x / 2 = 0
        · have : Lib.bitLenAux f (x / 2) = 0 := by rw [e2]; cases f <;> simp [Lib.bitLenAux]
          rw [this]; simp; omega
        · obtain ⟨h3, h4⟩ := h2 e2
          obtain ⟨l, hl⟩ : ∃ l, Lib.bitLenAux f (x / 2) = l + 1 := ⟨_, (Nat.sub_add_cancel h4).symm⟩
          rw [hl] at h3 ⊢
          simp only [Nat.add_sub_cancel] at h3
          have e3 : 1 + (l + 1) - 1 = l + 1 := by omega
          rw [e3, Nat.pow_succ]; omega
theorem bitLen_is {s : Nat} (h0 : 0 < s) (h1 : s ≤ 65535) : ∃ t, Lib.bitLen s = t + 1 ∧ 2 ^ t ≤ s ∧ s < 2 ^ (t + 1) := by
  obtain ⟨a, b⟩ := bitLen_aux 64 s (by omega)
  obtain ⟨c, d⟩ := b (by omega)
  unfold Lib.bitLen
  obtain ⟨t, ht⟩ : ∃ t, Lib.bitLenAux 64 s = t + 1 := ⟨_, (Nat.sub_add_cancel d).symm⟩
  rw [ht] at a c ⊢
  exact ⟨t, rfl, by simpa using c, a⟩
set_option maxHeartbeats 4000000 in
set_option maxRecDepth 100000 in
theorem len64_any (x : Int) (w : World) (h0 : 0 ≤ x) (h1 : x ≤ 18446744073709551615) :
    Calls Try.prog 57 #[.int .u64 x] w fun e w' => e = .returned (.int .i64 (Lib.bitLen x.toNat)) ∧ w' = w := by
  go_enter Try.func57, Try.ntmps57
  go_wp2
  all_goals (go_ret; refine ⟨congrArg Ending.returned (congrArg (Value.int IntKind.i64) ?_), rfl⟩)
  all_goals first
    | (rw [Lib.len8_of (x / 4294967296 / 65536 / 256 % 256) (by omega) (by omega)]
       have e : (x / 4294967296 / 65536 / 256 % 256).toNat = x.toNat / 72057594037927936 := by omega
       have l := Lib.bitLen_le8' (x / 4294967296 / 65536 / 256 % 256) (by omega) (by omega)
       have s := Lib.bitLen_shift56 x.toNat (by omega) (by omega)
       rw [e] at l ⊢
       omega)
    | (rw [Lib.len8_of (x / 4294967296 / 65536 % 256) (by omega) (by omega)]
       have e : (x / 4294967296 / 65536 % 256).toNat = x.toNat / 281474976710656 := by omega
       have l := Lib.bitLen_le8' (x / 4294967296 / 65536 % 256) (by omega) (by omega)
       have s := Lib.bitLen_shift48 x.toNat (by omega) (by omega)
       rw [e] at l ⊢
       omega)
    | (rw [Lib.len8_of (x / 4294967296 / 256 % 256) (by omega) (by omega)]
       have e : (x / 4294967296 / 256 % 256).toNat = x.toNat / 1099511627776 := by omega
       have l := Lib.bitLen_le8' (x / 4294967296 / 256 % 256) (by omega) (by omega)
       have s := Lib.bitLen_shift40 x.toNat (by omega) (by omega)
       rw [e] at l ⊢
       omega)
    | (rw [Lib.len8_of (x / 4294967296 % 256) (by omega) (by omega)]
       have e : (x / 4294967296 % 256).toNat = x.toNat / 4294967296 := by omega
       have l := Lib.bitLen_le8' (x / 4294967296 % 256) (by omega) (by omega)
       have s := Lib.bitLen_shift32 x.toNat (by omega) (by omega)
       rw [e] at l ⊢
       omega)
    | (rw [Lib.len8_of (x / 65536 / 256 % 256) (by omega) (by omega)]
       have e : (x / 65536 / 256 % 256).toNat = x.toNat / 16777216 := by omega
       have l := Lib.bitLen_le8' (x / 65536 / 256 % 256) (by omega) (by omega)
       have s := Lib.bitLen_shift24 x.toNat (by omega) (by omega)
       rw [e] at l ⊢
       omega)
    | (rw [Lib.len8_of (x / 65536 % 256) (by omega) (by omega)]
       have e : (x / 65536 % 256).toNat = x.toNat / 65536 := by omega
       have l := Lib.bitLen_le8' (x / 65536 % 256) (by omega) (by omega)
       have s := Lib.bitLen_shift16 x.toNat (by omega) (by omega)
       rw [e] at l ⊢
       omega)
    | (rw [Lib.len8_of (x / 256 % 256) (by omega) (by omega)]
       have e : (x / 256 % 256).toNat = x.toNat / 256 := by omega
       have l := Lib.bitLen_le8' (x / 256 % 256) (by omega) (by omega)
       have s := Lib.bitLen_shift8 x.toNat (by omega) (by omega)
       rw [e] at l ⊢
       omega)
    | (rw [Lib.len8_of (x % 256) (by omega) (by omega)]
       have e : (x % 256).toNat = x.toNat := by omega
       have l := Lib.bitLen_le8' (x % 256) (by omega) (by omega)
       rw [e] at l ⊢
       omega)
theorem len64_nat (s : Nat) (w : World) (h1 : s ≤ 65535) :
    Calls Try.prog 57 #[.int .u64 s] w fun e w' => e = .returned (.int .i64 (Lib.bitLen s)) ∧ w' = w := by
  have := len64_any (s : Int) w (by omega) (by omega)
  rwa [Int.toNat_natCast] at this
set_option maxHeartbeats 4000000 in
theorem len_any (s : Nat) (w : World) (h1 : s ≤ 65535) :
    Calls Try.prog 55 #[.int .u64 s] w fun e w' => e = .returned (.int .i64 (Lib.bitLen s)) ∧ w' = w := by
  go_enter Try.func55, Try.ntmps55
  go_wp2_with (go_at_call 57; refine (len64_nat s _ h1).mono ?_; rintro e w' ⟨rfl, rfl⟩)
  go_ret
  exact ⟨rfl, rfl⟩
end Go.Proofs.Ytdbpgfbbkejljaa

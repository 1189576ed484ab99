/- Lists of lengths: whether they are valid. No condition. -/
import Derived.Test.YtjmffhpfmfmnlaaInts
import Derived.Test.YtjmffhpfmfmnlaaScal
namespace Go.Proofs.Ytjmffhpfmfmnlaa
open Go.RowKit
set_option linter.unusedVariables false
set_option maxHeartbeats 2000000 in
theorem spec_LengthsOk_any (v : Value) (xs : List Int) (w : World) (h1 : RdI w v xs) :
    Calls Try.prog 51 #[v] w fun e w' => e = .returned (.bool (lengthsOk xs)) ∧ Below w.heap.size w w' := by
  obtain ⟨A1, c1, rfl, hc1, hm1, h1⟩ := h1
  unfold maxLen at hm1
  by_cases h8 : xs.length ≤ 8
  · go_enter Try.func51, Try.ntmps51
    go_wp2
    have H8 := hide h8
    go_loopw [10] (fun i wr => ∃ k : Nat, k ≤ xs.length ∧ i = .int .i64 k ∧ Hid (allUpTo (lenRow xs) k = true) ∧ Below w.heap.size w wr) (fun i _ => xs.length - (intOf i).toNat)
    case atStart => exact ⟨0, Nat.zero_le _, rfl, hide rfl, Below.refl _ _⟩
    case round =>
      obtain ⟨k, hk, rfl, HN, hb⟩ := hrel
      by_cases hlt : k < xs.length
      · obtain ⟨b1, o1, rfl, hb1, hcell1⟩ := h1 (by omega)
        have e0 : wr.cell? ⟨b1, o1 + k, none⟩ = some (.int .i64 (xs[k])) := by
          rw [hb.cell (p := ⟨b1, _, none⟩) hb1]; have := hcell1 k xs[k] (List.getElem?_eq_getElem hlt) 0 _ rfl; simpa using this
        have HR := hide (show lenRow xs k = inB xs[k] 1 400 by unfold lenRow; rw [getD_at hlt])
        clear hcell1 h1
        by_cases hi : inB xs[k] 1 400 = true
        · have HI := hide hi
          go_wp2_with (go_at_call 52; refine (l01In_any _ _ _ _).mono ?_; rintro e w1 ⟨rfl, hw⟩; obtain rfl := hw.symm)
          go_roundw
          case rel => exact ⟨k + 1, by omega, by go_num, hide (allUpTo_succ HN.out (HR.out.trans HI.out)), hb⟩
          case measure => simp [intOf]; omega
        · have hi' : inB xs[k] 1 400 = false := by simpa using hi
          have HI := hide hi'
          clear hi
          go_wp2_with (go_at_call 52; refine (l01In_any _ _ _ _).mono ?_; rintro e w1 ⟨rfl, hw⟩; obtain rfl := hw.symm)
          go_ret
          exact ⟨by simp [lengthsOk, allUpTo_bad hlt (HR.out.trans HI.out)], hb⟩
      · obtain rfl : k = xs.length := by omega
        go_wp2
        go_ret
        exact ⟨by simp [lengthsOk, H8.out, HN.out], hb⟩
  · go_enter Try.func51, Try.ntmps51
    go_wp2
    go_ret
    exact ⟨by simp [lengthsOk, h8], Below.refl _ _⟩
set_option maxHeartbeats 2000000 in
theorem impl_LengthsOk_any (v : Value) (xs : List Int) (w : World) (h1 : RdI w v xs) :
    Calls Try.prog 29 #[v] w fun e w' => e = .returned (.bool (lengthsOk xs)) ∧ Below w.heap.size w w' := by
  obtain ⟨A1, c1, rfl, hc1, hm1, h1⟩ := h1
  unfold maxLen at hm1
  by_cases h8 : xs.length ≤ 8
  · go_enter Try.func29, Try.ntmps29
    go_wp2
    have H8 := hide h8
    go_loopw [10] (fun i wr => ∃ k : Nat, k ≤ xs.length ∧ i = .int .i64 k ∧ Hid (allUpTo (lenRow xs) k = true) ∧ Below w.heap.size w wr) (fun i _ => xs.length - (intOf i).toNat)
    case atStart => exact ⟨0, Nat.zero_le _, rfl, hide rfl, Below.refl _ _⟩
    case round =>
      obtain ⟨k, hk, rfl, HN, hb⟩ := hrel
      by_cases hlt : k < xs.length
      · obtain ⟨b1, o1, rfl, hb1, hcell1⟩ := h1 (by omega)
        have e0 : wr.cell? ⟨b1, o1 + k, none⟩ = some (.int .i64 (xs[k])) := by
          rw [hb.cell (p := ⟨b1, _, none⟩) hb1]; have := hcell1 k xs[k] (List.getElem?_eq_getElem hlt) 0 _ rfl; simpa using this
        have HR := hide (show lenRow xs k = inB xs[k] 1 400 by unfold lenRow; rw [getD_at hlt])
        clear hcell1 h1
        by_cases hi : inB xs[k] 1 400 = true
        · have HI := hide hi
          go_wp2_with (go_at_call 66; refine (within_any _ _ _ _).mono ?_; rintro e w1 ⟨rfl, hw⟩; obtain rfl := hw.symm)
          go_roundw
          case rel => exact ⟨k + 1, by omega, by go_num, hide (allUpTo_succ HN.out (HR.out.trans HI.out)), hb⟩
          case measure => simp [intOf]; omega
        · have hi' : inB xs[k] 1 400 = false := by simpa using hi
          have HI := hide hi'
          clear hi
          go_wp2_with (go_at_call 66; refine (within_any _ _ _ _).mono ?_; rintro e w1 ⟨rfl, hw⟩; obtain rfl := hw.symm)
          go_ret
          exact ⟨by simp [lengthsOk, allUpTo_bad hlt (HR.out.trans HI.out)], hb⟩
      · obtain rfl : k = xs.length := by omega
        go_wp2
        go_ret
        exact ⟨by simp [lengthsOk, H8.out, HN.out], hb⟩
  · go_enter Try.func29, Try.ntmps29
    go_wp2
    go_ret
    exact ⟨by simp [lengthsOk, h8], Below.refl _ _⟩
end Go.Proofs.Ytjmffhpfmfmnlaa

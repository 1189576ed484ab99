/- Whether a list holds a number. No condition. -/
import Derived.Test.YtdbpgfbbkejljaaLeastC
namespace Go.Proofs.Ytdbpgfbbkejljaa
open Go.RowKit
set_option linter.unusedVariables false
theorem ints_get {l : List Nat} {k : Nat} (h : k < l.length) : (ints l)[k]? = some ((l[k] : Nat) : Int) := by simp [ints, h]
set_option maxRecDepth 100000 in
set_option maxHeartbeats 4000000 in
theorem has_any (v : Value) (l : List Nat) (x : Nat) (w : World) (h1 : RdI w v (ints l)) :
    Calls Try.prog 31 #[v, .int .i64 x] w fun e w' => e = .returned (.bool (l.contains x)) ∧ w' = w := by
  obtain ⟨A1, c1, rfl, hc1, hm1, h1⟩ := h1
  unfold maxLen at hm1
  rw [ints_len] at hc1
  simp only [ints_len] at h1 ⊢
  have H1 := hide h1; clear h1
  go_enter Try.func31, Try.ntmps31
  go_wp2
  go_loopw [9] (fun s wr => ∃ k : Nat, k ≤ l.length ∧ s = .int .i64 k ∧ Hid (∀ j (h : j < l.length), j < k → l[j] ≠ x) ∧ wr = w) (fun s _ => l.length - (intOf s).toNat)
  case atStart => exact ⟨0, Nat.zero_le _, rfl, hide (fun j h hj => by omega), rfl⟩
  case round =>
    obtain ⟨k, hk, rfl, HN, rfl⟩ := hrel
    by_cases hlt : k < l.length
    · have hlt' : (k : Int) < l.length := by omega
      obtain ⟨b1, o1, rfl, hb1, hcell1⟩ := H1.out (by omega)
      have e0 : wr.cell? ⟨b1, o1 + k, none⟩ = some (.int .i64 (l[k] : Nat)) := by have := hcell1 k _ (ints_get hlt) 0 _ rfl; simpa using this
      clear hcell1
      by_cases hx : l[k] = x
      · have HC := hide (show l.contains x = true by rw [← hx]; simp)
        have hxe : ((l[k] : Nat) : Int) = (x : Int) := by rw [hx]
        rw [hxe] at e0
        clear hxe hx
        go_wp2
        go_ret
        exact ⟨by rw [HC.out]; first | done | rfl, by first | rfl | trivial⟩
      · have HN2 := hide (show ∀ j (h : j < l.length), j < k + 1 → l[j] ≠ x from fun j h hj => by by_cases e : j = k; (subst e; exact hx); exact HN.out j h (by omega))
        obtain ⟨y, hy⟩ : ∃ y, l[k] = y := ⟨_, rfl⟩
        rw [hy] at e0 hx
        have hxe : ((y : Int) == (x : Int)) = false := by rw [beq_eq_false_iff_ne]; omega
        clear hy hx
        go_wp2
        go_roundw
        case rel => exact ⟨k + 1, by omega, by go_num, HN2, by first | rfl | trivial⟩
        case measure => simp [intOf]; omega
    · obtain rfl : k = l.length := by omega
      have HC := hide (show l.contains x = false by
        cases e : l.contains x with
        | false => rfl
        | true =>
          rw [List.contains_iff_mem] at e
          obtain ⟨j, hj, e2⟩ := List.getElem_of_mem e
          exact absurd e2 (HN.out j hj hj))
      go_wp2
      go_ret
      exact ⟨by rw [HC.out]; first | done | rfl, by first | rfl | trivial⟩
end Go.Proofs.Ytdbpgfbbkejljaa

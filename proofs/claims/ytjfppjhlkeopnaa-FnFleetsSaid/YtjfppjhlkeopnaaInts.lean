/- Contracts of the laws' own helpers on slices of integers. No condition. -/
import Derived.Test.YtjfppjhlkeopnaaFix
namespace Go.Proofs.Ytjfppjhlkeopnaa
open Go.RowKit


/-! the table without times -/
set_option maxHeartbeats 1000000 in
theorem spec_StayingMoves_any (w : World) :
    Calls Try.prog 109 #[] w fun e w' => ∃ v, e = .returned v ∧ Own w' w.heap.size 3 1 encI v (List.replicate 64 (0 : Int)) ∧ Below w.heap.size w w' := by
  obtain ⟨i0, hi0, hz0, hz1, hz2⟩ := info_parts int_info
  go_enter Try.func109, Try.ntmps109
  go_wp2_with (refine wpList_make_full _ rfl _ _ _ rfl w.heap.size 3 i0 _ 1 Try.underlying64 hi0 hz0 hz1 _ _ _ _ 64 rfl rfl rfl rfl (by rw [hz2]; omega) (by simp [maxLen]) (Nat.le_refl _) ?_; intro w1 hown hg)
  go_ret
  refine ⟨_, rfl, ?_, (Below.refl _ _).grown hg (Nat.le_refl _) (by simp)⟩
  have e : (madeCells (Value.int .i64 0).cells (64 * 1)).toList = (List.replicate 64 (0 : Int)).flatMap encI := by rw [show (Value.int IntKind.i64 0).cells = #[Value.int IntKind.i64 0] from rfl, toList_madeCells_one]; rfl
  unfold Own
  rw [← e]
  exact hown

/-! lengths of ships -/
def lenRow (xs : List Int) (i : Nat) : Bool := inB (xs.getD i default) 1 400
def lengthsOk (xs : List Int) : Bool := decide (xs.length ≤ 8) && allUpTo (lenRow xs) xs.length
end Go.Proofs.Ytjfppjhlkeopnaa

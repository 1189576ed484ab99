/- Contracts of the functions that only compute with numbers and with structs of numbers by value: each returns what its plain Lean twin says and leaves old memory alone. No condition. -/
import Derived.Test.YtjfppjhlkeopnaaFix
namespace Go.Proofs.Ytjfppjhlkeopnaa
open Go.RowKit


set_option maxHeartbeats 400000 in
theorem l01In_any (n lo hi : Int) (w : World) :
    Calls Try.prog 63 #[.int .i64 n, .int .i64 lo, .int .i64 hi] w fun e w' => e = .returned (.bool (inB n lo hi)) ∧ w' = w := by
  go_enter Try.func63, Try.ntmps63
  go_wp2
  all_goals go_ret
  all_goals (refine ⟨?_, rfl⟩; simp [inB]; omega)
set_option maxHeartbeats 400000 in
theorem within_any (n lo hi : Int) (w : World) :
    Calls Try.prog 65 #[.int .i64 n, .int .i64 lo, .int .i64 hi] w fun e w' => e = .returned (.bool (inB n lo hi)) ∧ w' = w := by
  go_enter Try.func65, Try.ntmps65
  go_wp2
  all_goals go_ret
  all_goals (refine ⟨?_, rfl⟩; simp [inB]; omega)
set_option maxHeartbeats 400000 in
theorem isIndex_any (n m : Int) (w : World) :
    Calls Try.prog 72 #[.int .i64 n, .int .i64 m] w fun e w' => e = .returned (.bool (decide (0 ≤ n) && decide (n < m))) ∧ w' = w := by
  go_enter Try.func72, Try.ntmps72
  go_wp2
  all_goals go_ret
  all_goals (refine ⟨?_, rfl⟩; simp; omega)

/-- an index, said as 'within the bounds' -/
theorem isIndexB (n m m' : Int) (w : World) (h : m = m' + 1) :
    Calls Try.prog 72 #[.int .i64 n, .int .i64 m] w fun e w' => e = .returned (.bool (inB n 0 m')) ∧ w' = w := by
  refine (isIndex_any n m w).mono ?_; rintro e w' ⟨rfl, rfl⟩
  have e : (decide (0 ≤ n) && decide (n < m)) = inB n 0 m' := by unfold inB; rw [Bool.eq_iff_iff]; simp; omega
  exact ⟨by rw [e], rfl⟩
/-! structs by value -/
def chOk (x0 x1 x2 : Int) : Bool := inB x0 10 1000 && inB x1 1 3 && inB x2 1 120
theorem chOk_of {x0 x1 x2 : Int} (h : chOk x0 x1 x2 = true) : 10 ≤ x0 ∧ x0 ≤ 1000 ∧ 1 ≤ x1 ∧ x1 ≤ 3 ∧ 1 ≤ x2 ∧ x2 ≤ 120 := by simp [chOk, inB] at h; omega
/-! windows of passages -/
def cfName (n : Int) : ByteArray := if inB n 0 4 = false then ⟨#[]⟩ else if n = 0 then ⟨#[0x6e,0x6f,0x6e,0x65]⟩ else if n = 1 then ⟨#[0x73,0x61,0x6d,0x65]⟩ else if n = 2 then ⟨#[0x6d,0x65,0x65,0x74]⟩ else if n = 3 then ⟨#[0x67,0x61,0x70]⟩ else ⟨#[0x70,0x61,0x73,0x73]⟩

/-! regimes, chambers -/
def stricter (x0 : Int) (x1 : Bool) (y0 : Int) (y1 : Bool) : Bool := inB x0 0 60 && inB y0 0 60 && decide (y0 ≤ x0) && (x1 || !y1)
def lockTime (x0 x1 x2 n : Int) : Int := if chOk x0 x1 x2 = true ∧ inB n 0 20 = true then (if n = 0 then 0 else (2 * n - 1) * x2) else -1
end Go.Proofs.Ytjfppjhlkeopnaa

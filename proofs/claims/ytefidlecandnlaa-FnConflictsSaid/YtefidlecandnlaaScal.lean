/- Contracts of the functions that only compute with numbers and with structs of numbers by value: each returns what its plain Lean twin says and leaves old memory alone. No condition. -/
import Derived.Test.YtefidlecandnlaaFix
namespace Go.Proofs.Ytefidlecandnlaa
open Go.RowKit


set_option maxHeartbeats 400000 in
theorem l01In_any (n lo hi : Int) (w : World) :
    Calls Try.prog 66 #[.int .i64 n, .int .i64 lo, .int .i64 hi] w fun e w' => e = .returned (.bool (inB n lo hi)) ∧ w' = w := by
  go_enter Try.func66, Try.ntmps66
  go_wp2
  all_goals go_ret
  all_goals (refine ⟨?_, rfl⟩; simp [inB]; omega)
set_option maxHeartbeats 400000 in
theorem within_any (n lo hi : Int) (w : World) :
    Calls Try.prog 110 #[.int .i64 n, .int .i64 lo, .int .i64 hi] w fun e w' => e = .returned (.bool (inB n lo hi)) ∧ w' = w := by
  go_enter Try.func110, Try.ntmps110
  go_wp2
  all_goals go_ret
  all_goals (refine ⟨?_, rfl⟩; simp [inB]; omega)
set_option maxHeartbeats 400000 in
theorem isMinute_any (n : Int) (w : World) :
    Calls Try.prog 86 #[.int .i64 n] w fun e w' => e = .returned (.bool (inB n 0 2880)) ∧ w' = w := by
  go_enter Try.func86, Try.ntmps86
  go_wp2_with (go_at_call 110; refine (within_any _ _ _ _).mono ?_; rintro e w' ⟨rfl, rfl⟩)
  go_ret
  exact ⟨rfl, rfl⟩
set_option maxHeartbeats 400000 in
theorem isIndex_any (n m : Int) (w : World) :
    Calls Try.prog 72 #[.int .i64 n, .int .i64 m] w fun e w' => e = .returned (.bool (decide (0 ≤ n) && decide (n < m))) ∧ w' = w := by
  go_enter Try.func72, Try.ntmps72
  go_wp2
  all_goals go_ret
  all_goals (refine ⟨?_, rfl⟩; simp; omega)

/-- an index, said as 'within the bounds' -/
theorem isIndexB (n m m' : Int) (w : World) (h : m = m' + 1) :
    Calls Try.prog 72 #[.int .i64 n, .int .i64 m] w fun e w' => e = .returned (.bool (inB n 0 m')) ∧ w' = w := by
  refine (isIndex_any n m w).mono ?_; rintro e w' ⟨rfl, rfl⟩
  have e : (decide (0 ≤ n) && decide (n < m)) = inB n 0 m' := by unfold inB; rw [Bool.eq_iff_iff]; simp; omega
  exact ⟨by rw [e], rfl⟩
/-! structs by value -/
set_option maxHeartbeats 400000 in
theorem toRegime_any (x0 : Int) (x1 : Bool) (w : World) :
    Calls Try.prog 27 #[.agg #[.int .i64 x0, .bool x1]] w fun e w' => e = .returned (.agg #[.int .i64 x0, .bool x1]) ∧ Below w.heap.size w w' := by
  go_enter Try.func27, Try.ntmps27
  go_wp2_with fail
  exact bodyPost_ret (v := .agg #[.int .i64 x0, .bool x1]) (by simp [results, Try.results27, go_sem]) rfl ⟨rfl, (by repeat (first | exact Below.refl _ _ | assumption | refine Below.setCell ?_ (by first | omega | (simp <;> omega)) _ | refine Below.alloc ?_ (by first | omega | (simp <;> omega)) _ | refine below_drewN ?_ _ | refine Below.drew ?_ | refine Below.trans ?_ (Below.mono (by assumption) (by first | omega | (simp <;> omega)))))⟩
set_option maxHeartbeats 400000 in
theorem spec_RegimeOk_any (x0 : Int) (x1 : Bool) (w : World) :
    Calls Try.prog 80 #[.agg #[.int .i64 x0, .bool x1]] w fun e w' => e = .returned (.bool (inB x0 0 60)) ∧ Below w.heap.size w w' := by
  go_enter Try.func80, Try.ntmps80
  go_wp2_with (go_at_call 66; refine (l01In_any _ _ _ _).mono ?_; rintro e w' ⟨rfl, rfl⟩)
  all_goals go_ret
  all_goals exact ⟨by simp_all, (by repeat (first | exact Below.refl _ _ | assumption | refine Below.setCell ?_ (by first | omega | (simp <;> omega)) _ | refine Below.alloc ?_ (by first | omega | (simp <;> omega)) _ | refine below_drewN ?_ _ | refine Below.drew ?_ | refine Below.trans ?_ (Below.mono (by assumption) (by first | omega | (simp <;> omega)))))⟩
def chOk (x0 x1 x2 : Int) : Bool := inB x0 10 1000 && inB x1 1 3 && inB x2 1 120
theorem chOk_of {x0 x1 x2 : Int} (h : chOk x0 x1 x2 = true) : 10 ≤ x0 ∧ x0 ≤ 1000 ∧ 1 ≤ x1 ∧ x1 ≤ 3 ∧ 1 ≤ x2 ∧ x2 ≤ 120 := by simp [chOk, inB] at h; omega
set_option maxHeartbeats 400000 in
theorem impl_RegimeOk_any (x0 : Int) (x1 : Bool) (w : World) :
    Calls Try.prog 59 #[.agg #[.int .i64 x0, .bool x1]] w fun e w' => e = .returned (.bool (inB x0 0 60)) ∧ Below w.heap.size w w' := by
  go_enter Try.func59, Try.ntmps59
  go_wp2_with (go_at_call 110; refine (within_any _ _ _ _).mono ?_; rintro e w' ⟨rfl, rfl⟩)
  all_goals go_ret
  all_goals exact ⟨by simp_all, (by repeat (first | exact Below.refl _ _ | assumption | refine Below.setCell ?_ (by first | omega | (simp <;> omega)) _ | refine Below.alloc ?_ (by first | omega | (simp <;> omega)) _ | refine below_drewN ?_ _ | refine Below.drew ?_ | refine Below.trans ?_ (Below.mono (by assumption) (by first | omega | (simp <;> omega)))))⟩
/-! windows of passages -/
set_option maxHeartbeats 1000000 in
theorem spec_Overlaps_any (x0 x1 : Int) (x2 : Bool) (x3 x4 y0 y1 : Int) (y2 : Bool) (y3 y4 : Int) (w : World) :
    Calls Try.prog 81 #[.agg #[.int .i64 x0, .int .i64 x1, .bool x2, .int .i64 x3, .int .i64 x4], .agg #[.int .i64 y0, .int .i64 y1, .bool y2, .int .i64 y3, .int .i64 y4]] w fun e w' => e = .returned (.bool (decide (max x3 y3 < min x4 y4))) ∧ Below w.heap.size w w' := by
  go_enter Try.func81, Try.ntmps81
  go_wp2_with fail
  all_goals go_ret
  all_goals exact ⟨by simp; omega, (by repeat (first | exact Below.refl _ _ | assumption | refine Below.setCell ?_ (by first | omega | (simp <;> omega)) _ | refine Below.alloc ?_ (by first | omega | (simp <;> omega)) _ | refine below_drewN ?_ _ | refine Below.drew ?_ | refine Below.trans ?_ (Below.mono (by assumption) (by first | omega | (simp <;> omega)))))⟩
set_option maxHeartbeats 1000000 in
theorem impl_Overlaps_any (x0 x1 : Int) (x2 : Bool) (x3 x4 y0 y1 : Int) (y2 : Bool) (y3 y4 : Int) (w : World) :
    Calls Try.prog 61 #[.agg #[.int .i64 x0, .int .i64 x1, .bool x2, .int .i64 x3, .int .i64 x4], .agg #[.int .i64 y0, .int .i64 y1, .bool y2, .int .i64 y3, .int .i64 y4]] w fun e w' => e = .returned (.bool (decide (max x3 y3 < min x4 y4))) ∧ Below w.heap.size w w' := by
  go_enter Try.func61, Try.ntmps61
  go_wp2_with fail
  all_goals go_ret
  all_goals exact ⟨by simp; omega, (by repeat (first | exact Below.refl _ _ | assumption | refine Below.setCell ?_ (by first | omega | (simp <;> omega)) _ | refine Below.alloc ?_ (by first | omega | (simp <;> omega)) _ | refine below_drewN ?_ _ | refine Below.drew ?_ | refine Below.trans ?_ (Below.mono (by assumption) (by first | omega | (simp <;> omega)))))⟩
def cfName (n : Int) : ByteArray := if inB n 0 4 = false then ⟨#[]⟩ else if n = 0 then ⟨#[0x6e,0x6f,0x6e,0x65]⟩ else if n = 1 then ⟨#[0x73,0x61,0x6d,0x65]⟩ else if n = 2 then ⟨#[0x6d,0x65,0x65,0x74]⟩ else if n = 3 then ⟨#[0x67,0x61,0x70]⟩ else ⟨#[0x70,0x61,0x73,0x73]⟩
set_option maxHeartbeats 1000000 in
theorem impl_ConflictName_any (n : Int) (w : World) :
    Calls Try.prog 60 #[.int .i64 n] w fun e w' => e = .returned (.string (cfName n)) ∧ Below w.heap.size w w' := by
  by_cases h : inB n 0 4 = true
  · have hn : n = 0 ∨ n = 1 ∨ n = 2 ∨ n = 3 ∨ n = 4 := by simp [inB] at h; omega
    clear h
    rcases hn with rfl | rfl | rfl | rfl | rfl
    all_goals
      go_enter Try.func60, Try.ntmps60
      go_wp2_with (go_at_call 110; refine (within_any _ _ _ _).mono ?_; rintro e w' ⟨rfl, rfl⟩)
      go_ret
      exact ⟨rfl, (by repeat (first | exact Below.refl _ _ | assumption | refine Below.setCell ?_ (by first | omega | (simp <;> omega)) _ | refine Below.alloc ?_ (by first | omega | (simp <;> omega)) _ | refine below_drewN ?_ _ | refine Below.drew ?_ | refine Below.trans ?_ (Below.mono (by assumption) (by first | omega | (simp <;> omega)))))⟩
  · go_enter Try.func60, Try.ntmps60
    go_wp2_with (go_at_call 110; refine (within_any _ _ _ _).mono ?_; rintro e w' ⟨rfl, rfl⟩)
    go_ret
    exact ⟨by simp [cfName, h], (by repeat (first | exact Below.refl _ _ | assumption | refine Below.setCell ?_ (by first | omega | (simp <;> omega)) _ | refine Below.alloc ?_ (by first | omega | (simp <;> omega)) _ | refine below_drewN ?_ _ | refine Below.drew ?_ | refine Below.trans ?_ (Below.mono (by assumption) (by first | omega | (simp <;> omega)))))⟩

/-! regimes, chambers -/
def stricter (x0 : Int) (x1 : Bool) (y0 : Int) (y1 : Bool) : Bool := inB x0 0 60 && inB y0 0 60 && decide (y0 ≤ x0) && (x1 || !y1)
set_option maxHeartbeats 1000000 in
theorem impl_StricterRegime_any (x0 : Int) (x1 : Bool) (y0 : Int) (y1 : Bool) (w : World) :
    Calls Try.prog 58 #[.agg #[.int .i64 x0, .bool x1], .agg #[.int .i64 y0, .bool y1]] w fun e w' => e = .returned (.bool (stricter x0 x1 y0 y1)) ∧ Below w.heap.size w w' := by
  cases x1 <;> cases y1
  all_goals
    go_enter Try.func58, Try.ntmps58
    go_wp2_with (go_at_call 59; refine (impl_RegimeOk_any _ _ _).mono ?_; rintro e w1 ⟨rfl, hb'⟩; (first | have hb := bnext hb hb' | have hb := bnextA hb hb' | have hb := hb'); clear hb'; obtain ⟨hc, hf⟩ := bcell hb; have hz := hb.size; (try simp at hz))
    all_goals go_ret
    all_goals exact ⟨by simp_all [stricter, -hc, -hf] <;> omega, (by repeat (first | exact Below.refl _ _ | assumption | refine Below.setCell ?_ (by first | omega | (simp <;> omega)) _ | refine Below.alloc ?_ (by first | omega | (simp <;> omega)) _ | refine below_drewN ?_ _ | refine Below.drew ?_ | refine Below.trans ?_ (Below.mono (by assumption) (by first | omega | (simp <;> omega)))))⟩
def lockTime (x0 x1 x2 n : Int) : Int := if chOk x0 x1 x2 = true ∧ inB n 0 20 = true then (if n = 0 then 0 else (2 * n - 1) * x2) else -1
end Go.Proofs.Ytefidlecandnlaa

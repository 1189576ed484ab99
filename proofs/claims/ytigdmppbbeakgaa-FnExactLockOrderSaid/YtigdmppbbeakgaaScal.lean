/- Contracts of the functions that only compute with numbers and with structs of numbers by value: each returns what its plain Lean twin says and leaves old memory alone. No condition. -/
import Derived.Test.YtigdmppbbeakgaaFix
namespace Go.Proofs.Ytigdmppbbeakgaa
open Go.RowKit


set_option maxHeartbeats 400000 in
theorem l01In_any (n lo hi : Int) (w : World) :
    Calls Try.prog 50 #[.int .i64 n, .int .i64 lo, .int .i64 hi] w fun e w' => e = .returned (.bool (inB n lo hi)) ∧ w' = w := by
  go_enter Try.func50, Try.ntmps50
  go_wp2
  all_goals go_ret
  all_goals (refine ⟨?_, rfl⟩; simp [inB]; omega)
set_option maxHeartbeats 400000 in
theorem within_any (n lo hi : Int) (w : World) :
    Calls Try.prog 51 #[.int .i64 n, .int .i64 lo, .int .i64 hi] w fun e w' => e = .returned (.bool (inB n lo hi)) ∧ w' = w := by
  go_enter Try.func51, Try.ntmps51
  go_wp2
  all_goals go_ret
  all_goals (refine ⟨?_, rfl⟩; simp [inB]; omega)
set_option maxHeartbeats 400000 in
theorem isMinute_any (n : Int) (w : World) :
    Calls Try.prog 56 #[.int .i64 n] w fun e w' => e = .returned (.bool (inB n 0 2880)) ∧ w' = w := by
  go_enter Try.func56, Try.ntmps56
  go_wp2_with (go_at_call 51; refine (within_any _ _ _ _).mono ?_; rintro e w' ⟨rfl, rfl⟩)
  go_ret
  exact ⟨rfl, rfl⟩

/-! structs by value -/
set_option maxHeartbeats 400000 in
theorem toRegime_any (x0 : Int) (x1 : Bool) (w : World) :
    Calls Try.prog 16 #[.agg #[.int .i64 x0, .bool x1]] w fun e w' => e = .returned (.agg #[.int .i64 x0, .bool x1]) ∧ Below w.heap.size w w' := by
  go_enter Try.func16, Try.ntmps16
  go_wp2_with fail
  exact bodyPost_ret (v := .agg #[.int .i64 x0, .bool x1]) (by simp [results, Try.results16, go_sem]) rfl ⟨rfl, (by repeat (first | exact Below.refl _ _ | assumption | refine Below.setCell ?_ (by first | omega | (simp <;> omega)) _ | refine Below.alloc ?_ (by first | omega | (simp <;> omega)) _ | refine below_drewN ?_ _ | refine Below.drew ?_ | refine Below.trans ?_ (Below.mono (by assumption) (by first | omega | (simp <;> omega)))))⟩
set_option maxHeartbeats 400000 in
theorem toChamber_any (x0 : Int) (x1 : Int) (x2 : Int) (w : World) :
    Calls Try.prog 24 #[.agg #[.int .i64 x0, .int .i64 x1, .int .i64 x2]] w fun e w' => e = .returned (.agg #[.int .i64 x0, .int .i64 x1, .int .i64 x2]) ∧ Below w.heap.size w w' := by
  go_enter Try.func24, Try.ntmps24
  go_wp2_with fail
  exact bodyPost_ret (v := .agg #[.int .i64 x0, .int .i64 x1, .int .i64 x2]) (by simp [results, Try.results24, go_sem]) rfl ⟨rfl, (by repeat (first | exact Below.refl _ _ | assumption | refine Below.setCell ?_ (by first | omega | (simp <;> omega)) _ | refine Below.alloc ?_ (by first | omega | (simp <;> omega)) _ | refine below_drewN ?_ _ | refine Below.drew ?_ | refine Below.trans ?_ (Below.mono (by assumption) (by first | omega | (simp <;> omega)))))⟩
set_option maxHeartbeats 400000 in
theorem spec_RegimeOk_any (x0 : Int) (x1 : Bool) (w : World) :
    Calls Try.prog 15 #[.agg #[.int .i64 x0, .bool x1]] w fun e w' => e = .returned (.bool (inB x0 0 60)) ∧ Below w.heap.size w w' := by
  go_enter Try.func15, Try.ntmps15
  go_wp2_with (go_at_call 50; refine (l01In_any _ _ _ _).mono ?_; rintro e w' ⟨rfl, rfl⟩)
  all_goals go_ret
  all_goals exact ⟨by simp_all, (by repeat (first | exact Below.refl _ _ | assumption | refine Below.setCell ?_ (by first | omega | (simp <;> omega)) _ | refine Below.alloc ?_ (by first | omega | (simp <;> omega)) _ | refine below_drewN ?_ _ | refine Below.drew ?_ | refine Below.trans ?_ (Below.mono (by assumption) (by first | omega | (simp <;> omega)))))⟩
def chOk (x0 x1 x2 : Int) : Bool := inB x0 10 1000 && inB x1 1 3 && inB x2 1 120
theorem chOk_of {x0 x1 x2 : Int} (h : chOk x0 x1 x2 = true) : 10 ≤ x0 ∧ x0 ≤ 1000 ∧ 1 ≤ x1 ∧ x1 ≤ 3 ∧ 1 ≤ x2 ∧ x2 ≤ 120 := by simp [chOk, inB] at h; omega
set_option maxHeartbeats 400000 in
theorem spec_ChamberOk_any (x0 : Int) (x1 : Int) (x2 : Int) (w : World) :
    Calls Try.prog 23 #[.agg #[.int .i64 x0, .int .i64 x1, .int .i64 x2]] w fun e w' => e = .returned (.bool (chOk x0 x1 x2)) ∧ Below w.heap.size w w' := by
  go_enter Try.func23, Try.ntmps23
  go_wp2_with (go_at_call 50; refine (l01In_any _ _ _ _).mono ?_; rintro e w' ⟨rfl, rfl⟩)
  all_goals go_ret
  all_goals exact ⟨by simp_all [chOk], (by repeat (first | exact Below.refl _ _ | assumption | refine Below.setCell ?_ (by first | omega | (simp <;> omega)) _ | refine Below.alloc ?_ (by first | omega | (simp <;> omega)) _ | refine below_drewN ?_ _ | refine Below.drew ?_ | refine Below.trans ?_ (Below.mono (by assumption) (by first | omega | (simp <;> omega)))))⟩
set_option maxHeartbeats 400000 in
theorem impl_RegimeOk_any (x0 : Int) (x1 : Bool) (w : World) :
    Calls Try.prog 17 #[.agg #[.int .i64 x0, .bool x1]] w fun e w' => e = .returned (.bool (inB x0 0 60)) ∧ Below w.heap.size w w' := by
  go_enter Try.func17, Try.ntmps17
  go_wp2_with (go_at_call 51; refine (within_any _ _ _ _).mono ?_; rintro e w' ⟨rfl, rfl⟩)
  all_goals go_ret
  all_goals exact ⟨by simp_all, (by repeat (first | exact Below.refl _ _ | assumption | refine Below.setCell ?_ (by first | omega | (simp <;> omega)) _ | refine Below.alloc ?_ (by first | omega | (simp <;> omega)) _ | refine below_drewN ?_ _ | refine Below.drew ?_ | refine Below.trans ?_ (Below.mono (by assumption) (by first | omega | (simp <;> omega)))))⟩
set_option maxHeartbeats 400000 in
theorem impl_ChamberOk_any (x0 : Int) (x1 : Int) (x2 : Int) (w : World) :
    Calls Try.prog 25 #[.agg #[.int .i64 x0, .int .i64 x1, .int .i64 x2]] w fun e w' => e = .returned (.bool (chOk x0 x1 x2)) ∧ Below w.heap.size w w' := by
  go_enter Try.func25, Try.ntmps25
  go_wp2_with (go_at_call 51; refine (within_any _ _ _ _).mono ?_; rintro e w' ⟨rfl, rfl⟩)
  all_goals go_ret
  all_goals exact ⟨by simp_all [chOk], (by repeat (first | exact Below.refl _ _ | assumption | refine Below.setCell ?_ (by first | omega | (simp <;> omega)) _ | refine Below.alloc ?_ (by first | omega | (simp <;> omega)) _ | refine below_drewN ?_ _ | refine Below.drew ?_ | refine Below.trans ?_ (Below.mono (by assumption) (by first | omega | (simp <;> omega)))))⟩
/-! windows of passages -/
set_option maxHeartbeats 1000000 in
theorem spec_Overlaps_any (x0 x1 : Int) (x2 : Bool) (x3 x4 y0 y1 : Int) (y2 : Bool) (y3 y4 : Int) (w : World) :
    Calls Try.prog 18 #[.agg #[.int .i64 x0, .int .i64 x1, .bool x2, .int .i64 x3, .int .i64 x4], .agg #[.int .i64 y0, .int .i64 y1, .bool y2, .int .i64 y3, .int .i64 y4]] w fun e w' => e = .returned (.bool (decide (max x3 y3 < min x4 y4))) ∧ Below w.heap.size w w' := by
  go_enter Try.func18, Try.ntmps18
  go_wp2_with fail
  all_goals go_ret
  all_goals exact ⟨by simp; omega, (by repeat (first | exact Below.refl _ _ | assumption | refine Below.setCell ?_ (by first | omega | (simp <;> omega)) _ | refine Below.alloc ?_ (by first | omega | (simp <;> omega)) _ | refine below_drewN ?_ _ | refine Below.drew ?_ | refine Below.trans ?_ (Below.mono (by assumption) (by first | omega | (simp <;> omega)))))⟩
set_option maxHeartbeats 1000000 in
theorem impl_Overlaps_any (x0 x1 : Int) (x2 : Bool) (x3 x4 y0 y1 : Int) (y2 : Bool) (y3 y4 : Int) (w : World) :
    Calls Try.prog 20 #[.agg #[.int .i64 x0, .int .i64 x1, .bool x2, .int .i64 x3, .int .i64 x4], .agg #[.int .i64 y0, .int .i64 y1, .bool y2, .int .i64 y3, .int .i64 y4]] w fun e w' => e = .returned (.bool (decide (max x3 y3 < min x4 y4))) ∧ Below w.heap.size w w' := by
  go_enter Try.func20, Try.ntmps20
  go_wp2_with fail
  all_goals go_ret
  all_goals exact ⟨by simp; omega, (by repeat (first | exact Below.refl _ _ | assumption | refine Below.setCell ?_ (by first | omega | (simp <;> omega)) _ | refine Below.alloc ?_ (by first | omega | (simp <;> omega)) _ | refine below_drewN ?_ _ | refine Below.drew ?_ | refine Below.trans ?_ (Below.mono (by assumption) (by first | omega | (simp <;> omega)))))⟩
def cfName (n : Int) : ByteArray := if inB n 0 4 = false then ⟨#[]⟩ else if n = 0 then ⟨#[0x6e,0x6f,0x6e,0x65]⟩ else if n = 1 then ⟨#[0x73,0x61,0x6d,0x65]⟩ else if n = 2 then ⟨#[0x6d,0x65,0x65,0x74]⟩ else if n = 3 then ⟨#[0x67,0x61,0x70]⟩ else ⟨#[0x70,0x61,0x73,0x73]⟩
set_option maxHeartbeats 1000000 in
theorem spec_ConflictName_any (n : Int) (w : World) :
    Calls Try.prog 21 #[.int .i64 n] w fun e w' => e = .returned (.string (cfName n)) ∧ Below w.heap.size w w' := by
  by_cases h : inB n 0 4 = true
  · have hn : n = 0 ∨ n = 1 ∨ n = 2 ∨ n = 3 ∨ n = 4 := by simp [inB] at h; omega
    clear h
    rcases hn with rfl | rfl | rfl | rfl | rfl
    all_goals
      go_enter Try.func21, Try.ntmps21
      go_wp2_with (go_at_call 50; refine (l01In_any _ _ _ _).mono ?_; rintro e w' ⟨rfl, rfl⟩)
      go_ret
      exact ⟨rfl, (by repeat (first | exact Below.refl _ _ | assumption | refine Below.setCell ?_ (by first | omega | (simp <;> omega)) _ | refine Below.alloc ?_ (by first | omega | (simp <;> omega)) _ | refine below_drewN ?_ _ | refine Below.drew ?_ | refine Below.trans ?_ (Below.mono (by assumption) (by first | omega | (simp <;> omega)))))⟩
  · go_enter Try.func21, Try.ntmps21
    go_wp2_with (go_at_call 50; refine (l01In_any _ _ _ _).mono ?_; rintro e w' ⟨rfl, rfl⟩)
    go_ret
    exact ⟨by simp [cfName, h], (by repeat (first | exact Below.refl _ _ | assumption | refine Below.setCell ?_ (by first | omega | (simp <;> omega)) _ | refine Below.alloc ?_ (by first | omega | (simp <;> omega)) _ | refine below_drewN ?_ _ | refine Below.drew ?_ | refine Below.trans ?_ (Below.mono (by assumption) (by first | omega | (simp <;> omega)))))⟩
set_option maxHeartbeats 1000000 in
theorem impl_ConflictName_any (n : Int) (w : World) :
    Calls Try.prog 22 #[.int .i64 n] w fun e w' => e = .returned (.string (cfName n)) ∧ Below w.heap.size w w' := by
  by_cases h : inB n 0 4 = true
  · have hn : n = 0 ∨ n = 1 ∨ n = 2 ∨ n = 3 ∨ n = 4 := by simp [inB] at h; omega
    clear h
    rcases hn with rfl | rfl | rfl | rfl | rfl
    all_goals
      go_enter Try.func22, Try.ntmps22
      go_wp2_with (go_at_call 51; refine (within_any _ _ _ _).mono ?_; rintro e w' ⟨rfl, rfl⟩)
      go_ret
      exact ⟨rfl, (by repeat (first | exact Below.refl _ _ | assumption | refine Below.setCell ?_ (by first | omega | (simp <;> omega)) _ | refine Below.alloc ?_ (by first | omega | (simp <;> omega)) _ | refine below_drewN ?_ _ | refine Below.drew ?_ | refine Below.trans ?_ (Below.mono (by assumption) (by first | omega | (simp <;> omega)))))⟩
  · go_enter Try.func22, Try.ntmps22
    go_wp2_with (go_at_call 51; refine (within_any _ _ _ _).mono ?_; rintro e w' ⟨rfl, rfl⟩)
    go_ret
    exact ⟨by simp [cfName, h], (by repeat (first | exact Below.refl _ _ | assumption | refine Below.setCell ?_ (by first | omega | (simp <;> omega)) _ | refine Below.alloc ?_ (by first | omega | (simp <;> omega)) _ | refine below_drewN ?_ _ | refine Below.drew ?_ | refine Below.trans ?_ (Below.mono (by assumption) (by first | omega | (simp <;> omega)))))⟩

/-! regimes, chambers -/
def stricter (x0 : Int) (x1 : Bool) (y0 : Int) (y1 : Bool) : Bool := inB x0 0 60 && inB y0 0 60 && decide (y0 ≤ x0) && (x1 || !y1)
set_option maxHeartbeats 1000000 in
theorem spec_StricterRegime_any (x0 : Int) (x1 : Bool) (y0 : Int) (y1 : Bool) (w : World) :
    Calls Try.prog 26 #[.agg #[.int .i64 x0, .bool x1], .agg #[.int .i64 y0, .bool y1]] w fun e w' => e = .returned (.bool (stricter x0 x1 y0 y1)) ∧ Below w.heap.size w w' := by
  cases x1 <;> cases y1
  all_goals
    go_enter Try.func26, Try.ntmps26
    go_wp2_with (go_at_call 15; refine (spec_RegimeOk_any _ _ _).mono ?_; rintro e w1 ⟨rfl, hb'⟩; (first | have hb := bnext hb hb' | have hb := bnextA hb hb' | have hb := hb'); clear hb'; obtain ⟨hc, hf⟩ := bcell hb; have hz := hb.size; (try simp at hz))
    all_goals go_ret
    all_goals exact ⟨by simp_all [stricter, -hc, -hf] <;> omega, (by repeat (first | exact Below.refl _ _ | assumption | refine Below.setCell ?_ (by first | omega | (simp <;> omega)) _ | refine Below.alloc ?_ (by first | omega | (simp <;> omega)) _ | refine below_drewN ?_ _ | refine Below.drew ?_ | refine Below.trans ?_ (Below.mono (by assumption) (by first | omega | (simp <;> omega)))))⟩
set_option maxHeartbeats 1000000 in
theorem impl_StricterRegime_any (x0 : Int) (x1 : Bool) (y0 : Int) (y1 : Bool) (w : World) :
    Calls Try.prog 27 #[.agg #[.int .i64 x0, .bool x1], .agg #[.int .i64 y0, .bool y1]] w fun e w' => e = .returned (.bool (stricter x0 x1 y0 y1)) ∧ Below w.heap.size w w' := by
  cases x1 <;> cases y1
  all_goals
    go_enter Try.func27, Try.ntmps27
    go_wp2_with (go_at_call 17; refine (impl_RegimeOk_any _ _ _).mono ?_; rintro e w1 ⟨rfl, hb'⟩; (first | have hb := bnext hb hb' | have hb := bnextA hb hb' | have hb := hb'); clear hb'; obtain ⟨hc, hf⟩ := bcell hb; have hz := hb.size; (try simp at hz))
    all_goals go_ret
    all_goals exact ⟨by simp_all [stricter, -hc, -hf] <;> omega, (by repeat (first | exact Below.refl _ _ | assumption | refine Below.setCell ?_ (by first | omega | (simp <;> omega)) _ | refine Below.alloc ?_ (by first | omega | (simp <;> omega)) _ | refine below_drewN ?_ _ | refine Below.drew ?_ | refine Below.trans ?_ (Below.mono (by assumption) (by first | omega | (simp <;> omega)))))⟩
def lockTime (x0 x1 x2 n : Int) : Int := if chOk x0 x1 x2 = true ∧ inB n 0 20 = true then (if n = 0 then 0 else (2 * n - 1) * x2) else -1
set_option maxHeartbeats 1000000 in
theorem spec_LockingTime_any (x0 x1 x2 n : Int) (w : World) :
    Calls Try.prog 33 #[.agg #[.int .i64 x0, .int .i64 x1, .int .i64 x2], .int .i64 n] w fun e w' => e = .returned (.int .i64 (lockTime x0 x1 x2 n)) ∧ Below w.heap.size w w' := by
  by_cases hk : chOk x0 x1 x2 = true
  · obtain ⟨_, _, _, _, m0, m1⟩ := chOk_of hk
    by_cases hn : inB n 0 20 = true
    · have hn' : 0 ≤ n ∧ n ≤ 20 := by simp [inB] at hn; omega
      obtain ⟨n0, n1⟩ := hn'
      have hm : 0 ≤ n * x2 ∧ n * x2 ≤ 2400 := ⟨Int.mul_nonneg n0 (by omega), Int.le_trans (Int.mul_le_mul n1 m1 (by omega) (by omega)) (by omega)⟩
      have e1 : (n - 1) * x2 = n * x2 - x2 := by rw [Int.sub_mul]; simp
      have e2 : (2 * n - 1) * x2 = 2 * (n * x2) - x2 := by rw [Int.sub_mul, Int.mul_assoc]; simp
      have b1 : -200 ≤ (n - 1) * x2 ∧ (n - 1) * x2 ≤ 2400 := by omega
      have b2 : -200 ≤ (2 * n - 1) * x2 ∧ (2 * n - 1) * x2 ≤ 4800 := by omega
      have fin : lockTime x0 x1 x2 n = if n = 0 then 0 else (2 * n - 1) * x2 := by simp [lockTime, hk, hn]
      have Fin := hide fin; have E1 := hide e1; have E2 := hide e2; clear fin e1 e2
      by_cases hz0 : n = 0
      · subst hz0
        go_enter Try.func33, Try.ntmps33
        go_wp2_with (first | (go_at_call 23; refine (spec_ChamberOk_any _ _ _ _).mono ?_; rintro e w1 ⟨rfl, hb'⟩; (first | have hb := bnext hb hb' | have hb := bnextA hb hb' | have hb := hb'); clear hb'; obtain ⟨hc, hf⟩ := bcell hb; have hz := hb.size; (try simp at hz)) | (go_at_call 50; refine (l01In_any _ _ _ _).mono ?_; rintro e w' ⟨rfl, rfl⟩))
        go_ret
        exact ⟨by rw [Fin.out]; simp, (by repeat (first | exact Below.refl _ _ | assumption | refine Below.setCell ?_ (by first | omega | (simp <;> omega)) _ | refine Below.alloc ?_ (by first | omega | (simp <;> omega)) _ | refine below_drewN ?_ _ | refine Below.drew ?_ | refine Below.trans ?_ (Below.mono (by assumption) (by first | omega | (simp <;> omega)))))⟩
      · have hn1 : (n == 0) = false := by simpa using hz0
        have hn2 : 1 ≤ n := by omega
        go_enter Try.func33, Try.ntmps33
        go_wp2_with (first | (go_at_call 23; refine (spec_ChamberOk_any _ _ _ _).mono ?_; rintro e w1 ⟨rfl, hb'⟩; (first | have hb := bnext hb hb' | have hb := bnextA hb hb' | have hb := hb'); clear hb'; obtain ⟨hc, hf⟩ := bcell hb; have hz := hb.size; (try simp at hz)) | (go_at_call 50; refine (l01In_any _ _ _ _).mono ?_; rintro e w' ⟨rfl, rfl⟩))
        go_ret
        refine ⟨?_, (by repeat (first | exact Below.refl _ _ | assumption | refine Below.setCell ?_ (by first | omega | (simp <;> omega)) _ | refine Below.alloc ?_ (by first | omega | (simp <;> omega)) _ | refine below_drewN ?_ _ | refine Below.drew ?_ | refine Below.trans ?_ (Below.mono (by assumption) (by first | omega | (simp <;> omega)))))⟩
        rw [Fin.out, if_neg hz0]
        have := E1.out; have := E2.out
        simp
        try omega
    · have fin : lockTime x0 x1 x2 n = -1 := by simp [lockTime, hn]
      have Fin := hide fin; clear fin
      go_enter Try.func33, Try.ntmps33
      go_wp2_with (first | (go_at_call 23; refine (spec_ChamberOk_any _ _ _ _).mono ?_; rintro e w1 ⟨rfl, hb'⟩; (first | have hb := bnext hb hb' | have hb := bnextA hb hb' | have hb := hb'); clear hb'; obtain ⟨hc, hf⟩ := bcell hb; have hz := hb.size; (try simp at hz)) | (go_at_call 50; refine (l01In_any _ _ _ _).mono ?_; rintro e w' ⟨rfl, rfl⟩))
      go_ret
      exact ⟨by rw [Fin.out]; rfl, (by repeat (first | exact Below.refl _ _ | assumption | refine Below.setCell ?_ (by first | omega | (simp <;> omega)) _ | refine Below.alloc ?_ (by first | omega | (simp <;> omega)) _ | refine below_drewN ?_ _ | refine Below.drew ?_ | refine Below.trans ?_ (Below.mono (by assumption) (by first | omega | (simp <;> omega)))))⟩
  · have fin : lockTime x0 x1 x2 n = -1 := by simp [lockTime, hk]
    have Fin := hide fin; clear fin
    go_enter Try.func33, Try.ntmps33
    go_wp2_with (first | (go_at_call 23; refine (spec_ChamberOk_any _ _ _ _).mono ?_; rintro e w1 ⟨rfl, hb'⟩; (first | have hb := bnext hb hb' | have hb := bnextA hb hb' | have hb := hb'); clear hb'; obtain ⟨hc, hf⟩ := bcell hb; have hz := hb.size; (try simp at hz)) | (go_at_call 50; refine (l01In_any _ _ _ _).mono ?_; rintro e w' ⟨rfl, rfl⟩))
    go_ret
    exact ⟨by rw [Fin.out]; rfl, (by repeat (first | exact Below.refl _ _ | assumption | refine Below.setCell ?_ (by first | omega | (simp <;> omega)) _ | refine Below.alloc ?_ (by first | omega | (simp <;> omega)) _ | refine below_drewN ?_ _ | refine Below.drew ?_ | refine Below.trans ?_ (Below.mono (by assumption) (by first | omega | (simp <;> omega)))))⟩
set_option maxHeartbeats 1000000 in
theorem impl_LockingTime_any (x0 x1 x2 n : Int) (w : World) :
    Calls Try.prog 34 #[.agg #[.int .i64 x0, .int .i64 x1, .int .i64 x2], .int .i64 n] w fun e w' => e = .returned (.int .i64 (lockTime x0 x1 x2 n)) ∧ Below w.heap.size w w' := by
  by_cases hk : chOk x0 x1 x2 = true
  · obtain ⟨_, _, _, _, m0, m1⟩ := chOk_of hk
    by_cases hn : inB n 0 20 = true
    · have hn' : 0 ≤ n ∧ n ≤ 20 := by simp [inB] at hn; omega
      obtain ⟨n0, n1⟩ := hn'
      have hm : 0 ≤ n * x2 ∧ n * x2 ≤ 2400 := ⟨Int.mul_nonneg n0 (by omega), Int.le_trans (Int.mul_le_mul n1 m1 (by omega) (by omega)) (by omega)⟩
      have e1 : (n - 1) * x2 = n * x2 - x2 := by rw [Int.sub_mul]; simp
      have e2 : (2 * n - 1) * x2 = 2 * (n * x2) - x2 := by rw [Int.sub_mul, Int.mul_assoc]; simp
      have b1 : -200 ≤ (n - 1) * x2 ∧ (n - 1) * x2 ≤ 2400 := by omega
      have b2 : -200 ≤ (2 * n - 1) * x2 ∧ (2 * n - 1) * x2 ≤ 4800 := by omega
      have fin : lockTime x0 x1 x2 n = if n = 0 then 0 else (2 * n - 1) * x2 := by simp [lockTime, hk, hn]
      have Fin := hide fin; have E1 := hide e1; have E2 := hide e2; clear fin e1 e2
      by_cases hz0 : n = 0
      · subst hz0
        go_enter Try.func34, Try.ntmps34
        go_wp2_with (first | (go_at_call 25; refine (impl_ChamberOk_any _ _ _ _).mono ?_; rintro e w1 ⟨rfl, hb'⟩; (first | have hb := bnext hb hb' | have hb := bnextA hb hb' | have hb := hb'); clear hb'; obtain ⟨hc, hf⟩ := bcell hb; have hz := hb.size; (try simp at hz)) | (go_at_call 51; refine (within_any _ _ _ _).mono ?_; rintro e w' ⟨rfl, rfl⟩))
        go_ret
        exact ⟨by rw [Fin.out]; simp, (by repeat (first | exact Below.refl _ _ | assumption | refine Below.setCell ?_ (by first | omega | (simp <;> omega)) _ | refine Below.alloc ?_ (by first | omega | (simp <;> omega)) _ | refine below_drewN ?_ _ | refine Below.drew ?_ | refine Below.trans ?_ (Below.mono (by assumption) (by first | omega | (simp <;> omega)))))⟩
      · have hn1 : (n == 0) = false := by simpa using hz0
        have hn2 : 1 ≤ n := by omega
        go_enter Try.func34, Try.ntmps34
        go_wp2_with (first | (go_at_call 25; refine (impl_ChamberOk_any _ _ _ _).mono ?_; rintro e w1 ⟨rfl, hb'⟩; (first | have hb := bnext hb hb' | have hb := bnextA hb hb' | have hb := hb'); clear hb'; obtain ⟨hc, hf⟩ := bcell hb; have hz := hb.size; (try simp at hz)) | (go_at_call 51; refine (within_any _ _ _ _).mono ?_; rintro e w' ⟨rfl, rfl⟩))
        go_ret
        refine ⟨?_, (by repeat (first | exact Below.refl _ _ | assumption | refine Below.setCell ?_ (by first | omega | (simp <;> omega)) _ | refine Below.alloc ?_ (by first | omega | (simp <;> omega)) _ | refine below_drewN ?_ _ | refine Below.drew ?_ | refine Below.trans ?_ (Below.mono (by assumption) (by first | omega | (simp <;> omega)))))⟩
        rw [Fin.out, if_neg hz0]
        have := E1.out; have := E2.out
        simp
        try omega
    · have fin : lockTime x0 x1 x2 n = -1 := by simp [lockTime, hn]
      have Fin := hide fin; clear fin
      go_enter Try.func34, Try.ntmps34
      go_wp2_with (first | (go_at_call 25; refine (impl_ChamberOk_any _ _ _ _).mono ?_; rintro e w1 ⟨rfl, hb'⟩; (first | have hb := bnext hb hb' | have hb := bnextA hb hb' | have hb := hb'); clear hb'; obtain ⟨hc, hf⟩ := bcell hb; have hz := hb.size; (try simp at hz)) | (go_at_call 51; refine (within_any _ _ _ _).mono ?_; rintro e w' ⟨rfl, rfl⟩))
      go_ret
      exact ⟨by rw [Fin.out]; rfl, (by repeat (first | exact Below.refl _ _ | assumption | refine Below.setCell ?_ (by first | omega | (simp <;> omega)) _ | refine Below.alloc ?_ (by first | omega | (simp <;> omega)) _ | refine below_drewN ?_ _ | refine Below.drew ?_ | refine Below.trans ?_ (Below.mono (by assumption) (by first | omega | (simp <;> omega)))))⟩
  · have fin : lockTime x0 x1 x2 n = -1 := by simp [lockTime, hk]
    have Fin := hide fin; clear fin
    go_enter Try.func34, Try.ntmps34
    go_wp2_with (first | (go_at_call 25; refine (impl_ChamberOk_any _ _ _ _).mono ?_; rintro e w1 ⟨rfl, hb'⟩; (first | have hb := bnext hb hb' | have hb := bnextA hb hb' | have hb := hb'); clear hb'; obtain ⟨hc, hf⟩ := bcell hb; have hz := hb.size; (try simp at hz)) | (go_at_call 51; refine (within_any _ _ _ _).mono ?_; rintro e w' ⟨rfl, rfl⟩))
    go_ret
    exact ⟨by rw [Fin.out]; rfl, (by repeat (first | exact Below.refl _ _ | assumption | refine Below.setCell ?_ (by first | omega | (simp <;> omega)) _ | refine Below.alloc ?_ (by first | omega | (simp <;> omega)) _ | refine below_drewN ?_ _ | refine Below.drew ?_ | refine Below.trans ?_ (Below.mono (by assumption) (by first | omega | (simp <;> omega)))))⟩
end Go.Proofs.Ytigdmppbbeakgaa

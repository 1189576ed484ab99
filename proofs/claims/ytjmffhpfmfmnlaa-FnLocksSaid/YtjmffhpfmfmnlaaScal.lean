/- Contracts of the functions that only compute with numbers and with structs of numbers by value: each returns what its plain Lean twin says and leaves old memory alone. No condition. -/
import Derived.Test.YtjmffhpfmfmnlaaFix
namespace Go.Proofs.Ytjmffhpfmfmnlaa
open Go.RowKit


set_option maxHeartbeats 400000 in
theorem l01In_any (n lo hi : Int) (w : World) :
    Calls Try.prog 52 #[.int .i64 n, .int .i64 lo, .int .i64 hi] w fun e w' => e = .returned (.bool (inB n lo hi)) ∧ w' = w := by
  go_enter Try.func52, Try.ntmps52
  go_wp2
  all_goals go_ret
  all_goals (refine ⟨?_, rfl⟩; simp [inB]; omega)
set_option maxHeartbeats 400000 in
theorem within_any (n lo hi : Int) (w : World) :
    Calls Try.prog 66 #[.int .i64 n, .int .i64 lo, .int .i64 hi] w fun e w' => e = .returned (.bool (inB n lo hi)) ∧ w' = w := by
  go_enter Try.func66, Try.ntmps66
  go_wp2
  all_goals go_ret
  all_goals (refine ⟨?_, rfl⟩; simp [inB]; omega)
set_option maxHeartbeats 400000 in
theorem isMinute_any (n : Int) (w : World) :
    Calls Try.prog 74 #[.int .i64 n] w fun e w' => e = .returned (.bool (inB n 0 2880)) ∧ w' = w := by
  go_enter Try.func74, Try.ntmps74
  go_wp2_with (go_at_call 66; refine (within_any _ _ _ _).mono ?_; rintro e w' ⟨rfl, rfl⟩)
  go_ret
  exact ⟨rfl, rfl⟩
set_option maxHeartbeats 400000 in
theorem isIndex_any (n m : Int) (w : World) :
    Calls Try.prog 53 #[.int .i64 n, .int .i64 m] w fun e w' => e = .returned (.bool (decide (0 ≤ n) && decide (n < m))) ∧ w' = w := by
  go_enter Try.func53, Try.ntmps53
  go_wp2
  all_goals go_ret
  all_goals (refine ⟨?_, rfl⟩; simp; omega)

/-- an index, said as 'within the bounds' -/
theorem isIndexB (n m m' : Int) (w : World) (h : m = m' + 1) :
    Calls Try.prog 53 #[.int .i64 n, .int .i64 m] w fun e w' => e = .returned (.bool (inB n 0 m')) ∧ w' = w := by
  refine (isIndex_any n m w).mono ?_; rintro e w' ⟨rfl, rfl⟩
  have e : (decide (0 ≤ n) && decide (n < m)) = inB n 0 m' := by unfold inB; rw [Bool.eq_iff_iff]; simp; omega
  exact ⟨by rw [e], rfl⟩
/-! structs by value -/
set_option maxHeartbeats 400000 in
theorem toChamber_any (x0 : Int) (x1 : Int) (x2 : Int) (w : World) :
    Calls Try.prog 13 #[.agg #[.int .i64 x0, .int .i64 x1, .int .i64 x2]] w fun e w' => e = .returned (.agg #[.int .i64 x0, .int .i64 x1, .int .i64 x2]) ∧ Below w.heap.size w w' := by
  go_enter Try.func13, Try.ntmps13
  go_wp2_with fail
  exact bodyPost_ret (v := .agg #[.int .i64 x0, .int .i64 x1, .int .i64 x2]) (by simp [results, Try.results13, go_sem]) rfl ⟨rfl, (by repeat (first | exact Below.refl _ _ | assumption | refine Below.setCell ?_ (by first | omega | (simp <;> omega)) _ | refine Below.alloc ?_ (by first | omega | (simp <;> omega)) _ | refine below_drewN ?_ _ | refine Below.drew ?_ | refine Below.trans ?_ (Below.mono (by assumption) (by first | omega | (simp <;> omega)))))⟩
def chOk (x0 x1 x2 : Int) : Bool := inB x0 10 1000 && inB x1 1 3 && inB x2 1 120
theorem chOk_of {x0 x1 x2 : Int} (h : chOk x0 x1 x2 = true) : 10 ≤ x0 ∧ x0 ≤ 1000 ∧ 1 ≤ x1 ∧ x1 ≤ 3 ∧ 1 ≤ x2 ∧ x2 ≤ 120 := by simp [chOk, inB] at h; omega
set_option maxHeartbeats 400000 in
theorem spec_ChamberOk_any (x0 : Int) (x1 : Int) (x2 : Int) (w : World) :
    Calls Try.prog 50 #[.agg #[.int .i64 x0, .int .i64 x1, .int .i64 x2]] w fun e w' => e = .returned (.bool (chOk x0 x1 x2)) ∧ Below w.heap.size w w' := by
  go_enter Try.func50, Try.ntmps50
  go_wp2_with (go_at_call 52; refine (l01In_any _ _ _ _).mono ?_; rintro e w' ⟨rfl, rfl⟩)
  all_goals go_ret
  all_goals exact ⟨by simp_all [chOk], (by repeat (first | exact Below.refl _ _ | assumption | refine Below.setCell ?_ (by first | omega | (simp <;> omega)) _ | refine Below.alloc ?_ (by first | omega | (simp <;> omega)) _ | refine below_drewN ?_ _ | refine Below.drew ?_ | refine Below.trans ?_ (Below.mono (by assumption) (by first | omega | (simp <;> omega)))))⟩
set_option maxHeartbeats 400000 in
theorem impl_ChamberOk_any (x0 : Int) (x1 : Int) (x2 : Int) (w : World) :
    Calls Try.prog 28 #[.agg #[.int .i64 x0, .int .i64 x1, .int .i64 x2]] w fun e w' => e = .returned (.bool (chOk x0 x1 x2)) ∧ Below w.heap.size w w' := by
  go_enter Try.func28, Try.ntmps28
  go_wp2_with (go_at_call 66; refine (within_any _ _ _ _).mono ?_; rintro e w' ⟨rfl, rfl⟩)
  all_goals go_ret
  all_goals exact ⟨by simp_all [chOk], (by repeat (first | exact Below.refl _ _ | assumption | refine Below.setCell ?_ (by first | omega | (simp <;> omega)) _ | refine Below.alloc ?_ (by first | omega | (simp <;> omega)) _ | refine below_drewN ?_ _ | refine Below.drew ?_ | refine Below.trans ?_ (Below.mono (by assumption) (by first | omega | (simp <;> omega)))))⟩
/-! windows of passages -/
def cfName (n : Int) : ByteArray := if inB n 0 4 = false then ⟨#[]⟩ else if n = 0 then ⟨#[0x6e,0x6f,0x6e,0x65]⟩ else if n = 1 then ⟨#[0x73,0x61,0x6d,0x65]⟩ else if n = 2 then ⟨#[0x6d,0x65,0x65,0x74]⟩ else if n = 3 then ⟨#[0x67,0x61,0x70]⟩ else ⟨#[0x70,0x61,0x73,0x73]⟩

/-! regimes, chambers -/
def stricter (x0 : Int) (x1 : Bool) (y0 : Int) (y1 : Bool) : Bool := inB x0 0 60 && inB y0 0 60 && decide (y0 ≤ x0) && (x1 || !y1)
def lockTime (x0 x1 x2 n : Int) : Int := if chOk x0 x1 x2 = true ∧ inB n 0 20 = true then (if n = 0 then 0 else (2 * n - 1) * x2) else -1
set_option maxHeartbeats 1000000 in
theorem impl_LockingTime_any (x0 x1 x2 n : Int) (w : World) :
    Calls Try.prog 30 #[.agg #[.int .i64 x0, .int .i64 x1, .int .i64 x2], .int .i64 n] w fun e w' => e = .returned (.int .i64 (lockTime x0 x1 x2 n)) ∧ Below w.heap.size w w' := by
  by_cases hk : chOk x0 x1 x2 = true
  · obtain ⟨_, _, _, _, m0, m1⟩ := chOk_of hk
    by_cases hn : inB n 0 20 = true
    · have hn' : 0 ≤ n ∧ n ≤ 20 := by simp [inB] at hn; omega
      obtain ⟨n0, n1⟩ := hn'
      have hm : 0 ≤ n * x2 ∧ n * x2 ≤ 2400 := ⟨Int.mul_nonneg n0 (by omega), Int.le_trans (Int.mul_le_mul n1 m1 (by omega) (by omega)) (by omega)⟩
      have e1 : (n - 1) * x2 = n * x2 - x2 := by rw [Int.sub_mul]; simp
      have e2 : (2 * n - 1) * x2 = 2 * (n * x2) - x2 := by rw [Int.sub_mul, Int.mul_assoc]; simp
      have b1 : -200 ≤ (n - 1) * x2 ∧ (n - 1) * x2 ≤ 2400 := by omega
      have b2 : -200 ≤ (2 * n - 1) * x2 ∧ (2 * n - 1) * x2 ≤ 4800 := by omega
      have fin : lockTime x0 x1 x2 n = if n = 0 then 0 else (2 * n - 1) * x2 := by simp [lockTime, hk, hn]
      have Fin := hide fin; have E1 := hide e1; have E2 := hide e2; clear fin e1 e2
      by_cases hz0 : n = 0
      · subst hz0
        go_enter Try.func30, Try.ntmps30
        go_wp2_with (first | (go_at_call 28; refine (impl_ChamberOk_any _ _ _ _).mono ?_; rintro e w1 ⟨rfl, hb'⟩; (first | have hb := bnext hb hb' | have hb := bnextA hb hb' | have hb := hb'); clear hb'; obtain ⟨hc, hf⟩ := bcell hb; have hz := hb.size; (try simp at hz)) | (go_at_call 66; refine (within_any _ _ _ _).mono ?_; rintro e w' ⟨rfl, rfl⟩))
        go_ret
        exact ⟨by rw [Fin.out]; simp, (by repeat (first | exact Below.refl _ _ | assumption | refine Below.setCell ?_ (by first | omega | (simp <;> omega)) _ | refine Below.alloc ?_ (by first | omega | (simp <;> omega)) _ | refine below_drewN ?_ _ | refine Below.drew ?_ | refine Below.trans ?_ (Below.mono (by assumption) (by first | omega | (simp <;> omega)))))⟩
      · have hn1 : (n == 0) = false := by simpa using hz0
        have hn2 : 1 ≤ n := by omega
        go_enter Try.func30, Try.ntmps30
        go_wp2_with (first | (go_at_call 28; refine (impl_ChamberOk_any _ _ _ _).mono ?_; rintro e w1 ⟨rfl, hb'⟩; (first | have hb := bnext hb hb' | have hb := bnextA hb hb' | have hb := hb'); clear hb'; obtain ⟨hc, hf⟩ := bcell hb; have hz := hb.size; (try simp at hz)) | (go_at_call 66; refine (within_any _ _ _ _).mono ?_; rintro e w' ⟨rfl, rfl⟩))
        go_ret
        refine ⟨?_, (by repeat (first | exact Below.refl _ _ | assumption | refine Below.setCell ?_ (by first | omega | (simp <;> omega)) _ | refine Below.alloc ?_ (by first | omega | (simp <;> omega)) _ | refine below_drewN ?_ _ | refine Below.drew ?_ | refine Below.trans ?_ (Below.mono (by assumption) (by first | omega | (simp <;> omega)))))⟩
        rw [Fin.out, if_neg hz0]
        have := E1.out; have := E2.out
        simp
        try omega
    · have fin : lockTime x0 x1 x2 n = -1 := by simp [lockTime, hn]
      have Fin := hide fin; clear fin
      go_enter Try.func30, Try.ntmps30
      go_wp2_with (first | (go_at_call 28; refine (impl_ChamberOk_any _ _ _ _).mono ?_; rintro e w1 ⟨rfl, hb'⟩; (first | have hb := bnext hb hb' | have hb := bnextA hb hb' | have hb := hb'); clear hb'; obtain ⟨hc, hf⟩ := bcell hb; have hz := hb.size; (try simp at hz)) | (go_at_call 66; refine (within_any _ _ _ _).mono ?_; rintro e w' ⟨rfl, rfl⟩))
      go_ret
      exact ⟨by rw [Fin.out]; rfl, (by repeat (first | exact Below.refl _ _ | assumption | refine Below.setCell ?_ (by first | omega | (simp <;> omega)) _ | refine Below.alloc ?_ (by first | omega | (simp <;> omega)) _ | refine below_drewN ?_ _ | refine Below.drew ?_ | refine Below.trans ?_ (Below.mono (by assumption) (by first | omega | (simp <;> omega)))))⟩
  · have fin : lockTime x0 x1 x2 n = -1 := by simp [lockTime, hk]
    have Fin := hide fin; clear fin
    go_enter Try.func30, Try.ntmps30
    go_wp2_with (first | (go_at_call 28; refine (impl_ChamberOk_any _ _ _ _).mono ?_; rintro e w1 ⟨rfl, hb'⟩; (first | have hb := bnext hb hb' | have hb := bnextA hb hb' | have hb := hb'); clear hb'; obtain ⟨hc, hf⟩ := bcell hb; have hz := hb.size; (try simp at hz)) | (go_at_call 66; refine (within_any _ _ _ _).mono ?_; rintro e w' ⟨rfl, rfl⟩))
    go_ret
    exact ⟨by rw [Fin.out]; rfl, (by repeat (first | exact Below.refl _ _ | assumption | refine Below.setCell ?_ (by first | omega | (simp <;> omega)) _ | refine Below.alloc ?_ (by first | omega | (simp <;> omega)) _ | refine below_drewN ?_ _ | refine Below.drew ?_ | refine Below.trans ?_ (Below.mono (by assumption) (by first | omega | (simp <;> omega)))))⟩
end Go.Proofs.Ytjmffhpfmfmnlaa

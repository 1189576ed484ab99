/- Waves and tides: both texts. No condition. -/
import Derived.Test.YtjfppjhlkeopnaaSPart
import Derived.Test.YtjfppjhlkeopnaaSSurge
import Derived.Test.YtjfppjhlkeopnaaAfloat
import Derived.Test.YtjfppjhlkeopnaaSeq
import Derived.BigGuardPart
namespace Go.Proofs.Ytjfppjhlkeopnaa
open Go.RowKit
set_option linter.unusedVariables false
def isPer (p : Int) : Bool := inB p 4 2880 && decide (p % 4 = 0)
def waveH (x h : Int) : Int := 40000 * x * (h - x) / (h * h)
def wave (n p : Int) : Int := if n % p < p / 2 then waveH (n % p) (p / 2) else -waveH (n % p - p / 2) (p / 2)
def partOk (x : PartD) : Bool := inB x.amp 0 1000 && isPer x.period && inB x.phase 0 (x.period - 1)
def tideOk (m : Int) (ps : List PartD) : Bool := inB m (-1000) 1000 && decide (ps.length ≤ 4) && ps.all partOk
def partLevel (m : Int) (x : PartD) : Int := (x.amp * wave (m + x.phase) x.period).tdiv 10000
def level (m0 : Int) (ps : List PartD) (m : Int) : Int := ps.foldl (fun s x => s + partLevel m x) m0
theorem sq_pos {h : Int} (h2 : 2 ≤ h) (h3 : h ≤ 1440) : 4 ≤ h * h ∧ h * h ≤ 2073600 := by
  have a := Int.mul_le_mul h2 h2 (by omega) (by omega)
  have b := Int.mul_le_mul h3 h3 (by omega) (by omega)
  omega
theorem up_bounds {x h : Int} (h2 : 2 ≤ h) (h3 : h ≤ 1440) (x0 : 0 ≤ x) (x1 : x ≤ h) : 0 ≤ 40000 * x * (h - x) ∧ 40000 * x * (h - x) ≤ 10000 * (h * h) := by
  have a : 0 ≤ 40000 * x * (h - x) := Int.mul_nonneg (by omega) (by omega)
  have b : 0 ≤ (h - 2 * x) * (h - 2 * x) := by
    rcases Int.le_total 0 (h - 2 * x) with c | c
    · exact Int.mul_nonneg c c
    · have := Int.mul_nonneg (show 0 ≤ -(h - 2 * x) by omega) (show 0 ≤ -(h - 2 * x) by omega)
      rwa [Int.neg_mul_neg] at this
  refine ⟨a, ?_⟩
  have e : 40000 * x * (h - x) = 40000 * (x * h) - 40000 * (x * x) := by rw [Int.mul_sub, Int.mul_assoc, Int.mul_assoc]
  have f : (h - 2 * x) * (h - 2 * x) = h * h - 4 * (x * h) + 4 * (x * x) := by grind
  omega
theorem waveH_range {x h : Int} (h2 : 2 ≤ h) (h3 : h ≤ 1440) (x0 : 0 ≤ x) (x1 : x ≤ h) : 0 ≤ waveH x h ∧ waveH x h ≤ 10000 := by
  obtain ⟨a, b⟩ := up_bounds h2 h3 x0 x1
  obtain ⟨c, d⟩ := sq_pos h2 h3
  unfold waveH
  exact ⟨Int.ediv_nonneg a (by omega), Int.ediv_le_of_le_mul (by omega) b⟩
theorem wave_range {n p : Int} (hp : isPer p = true) : -10000 ≤ wave n p ∧ wave n p ≤ 10000 := by
  simp [isPer, inB] at hp
  have a := Int.emod_nonneg n (show p ≠ 0 by omega)
  have b := Int.emod_lt_of_pos n (show 0 < p by omega)
  unfold wave
  split
  · have := waveH_range (x := n % p) (h := p / 2) (by omega) (by omega) (by omega) (by omega); omega
  · have := waveH_range (x := n % p - p / 2) (h := p / 2) (by omega) (by omega) (by omega) (by omega); omega
theorem partOk_per {x : PartD} (h : partOk x = true) : isPer x.period = true := by simp [partOk, isPer, inB] at h ⊢; omega
theorem partOk_of {x : PartD} (h : partOk x = true) : 0 ≤ x.amp ∧ x.amp ≤ 1000 ∧ 4 ≤ x.period ∧ x.period ≤ 2880 ∧ 0 ≤ x.phase ∧ x.phase < x.period := by simp [partOk, isPer, inB] at h; omega
theorem amp_bounds {a q : Int} (a0 : 0 ≤ a) (a1 : a ≤ 1000) (q0 : -10000 ≤ q) (q1 : q ≤ 10000) : -10000000 ≤ a * q ∧ a * q ≤ 10000000 := by
  have h1 : a * q ≤ a * 10000 := Int.mul_le_mul_of_nonneg_left q1 a0
  have h2 : a * (-10000) ≤ a * q := Int.mul_le_mul_of_nonneg_left q0 a0
  omega
theorem tdiv_bounds {z : Int} (h0 : -10000000 ≤ z) (h1 : z ≤ 10000000) : -1000 ≤ z.tdiv 10000 ∧ z.tdiv 10000 ≤ 1000 := by
  rcases Int.le_total 0 z with h | h
  · rw [Int.tdiv_eq_ediv_of_nonneg h]; omega
  · have e : z.tdiv 10000 = -((-z).tdiv 10000) := by rw [Int.neg_tdiv, Int.neg_neg]
    rw [e, Int.tdiv_eq_ediv_of_nonneg (by omega)]; omega
theorem partLevel_range {m : Int} {x : PartD} (h : partOk x = true) : -1000 ≤ partLevel m x ∧ partLevel m x ≤ 1000 := by
  have a := partOk_of h
  have b := wave_range (n := m + x.phase) (partOk_per h)
  have c := amp_bounds a.1 a.2.1 b.1 b.2
  exact tdiv_bounds c.1 c.2
theorem level_range : ∀ {ps : List PartD} {m0 m : Int}, (∀ x ∈ ps, partOk x = true) → m0 - 1000 * ps.length ≤ level m0 ps m ∧ level m0 ps m ≤ m0 + 1000 * ps.length
  | [], m0, m, _ => by simp [level]
  | x :: ps, m0, m, h => by
    have a := partLevel_range (m := m) (h x (by simp))
    have b := level_range (ps := ps) (m0 := m0 + partLevel m x) (m := m) (fun y hy => h y (by simp [hy]))
    simp only [level, List.foldl_cons, List.length_cons] at b ⊢
    omega
theorem tideOk_of {m : Int} {ps : List PartD} (h : tideOk m ps = true) : -1000 ≤ m ∧ m ≤ 1000 ∧ ps.length ≤ 4 ∧ ∀ x ∈ ps, partOk x = true := by
  simp [tideOk, inB] at h
  exact ⟨h.1.1.1, h.1.1.2, h.1.2, h.2⟩
end Go.Proofs.Ytjfppjhlkeopnaa

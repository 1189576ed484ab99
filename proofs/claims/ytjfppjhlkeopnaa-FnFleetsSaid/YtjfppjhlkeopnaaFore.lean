/- Surges and forecasts: both texts. No condition. -/
import Derived.Test.YtjfppjhlkeopnaaTide3
namespace Go.Proofs.Ytjfppjhlkeopnaa
open Go.RowKit
set_option linter.unusedVariables false
theorem calls_bool {P : Program} {f : FuncId} {args : Array Value} {w : World} {R : World → Prop} {b c : Bool} (h : Calls P f args w fun e w' => e = .returned (.bool b) ∧ R w') (hb : b = c) : Calls P f args w fun e w' => e = .returned (.bool c) ∧ R w' := hb ▸ h
structure ForeD where
  m0 : Int
  parts : List PartD
  surges : List SurgeD
def surgeOk (s : SurgeD) : Bool := inB s.start 0 2880 && decide (-500 ≤ s.low) && decide (s.low ≤ s.high) && decide (s.high ≤ 500)
def surgeRow (ss : List SurgeD) (i : Nat) : Bool := surgeOk (ss.getD i default) && (decide (i = 0) || decide ((ss.getD (i - 1) default).start < (ss.getD i default).start))
def foreOk (f : ForeD) : Bool := tideOk f.m0 f.parts && inB (f.surges.length : Int) 1 6 && decide ((f.surges.getD 0 default).start = 0) && allUpTo (surgeRow f.surges) f.surges.length
def RdFore (w : World) (B : Nat) (v1 v2 : Value) (f : ForeD) : Prop := RdB w B 3 PartD.enc v1 f.parts ∧ RdB w B 3 SurgeD.enc v2 f.surges
theorem RdFore.keep {w w' : World} {B B' : Nat} {v1 v2 : Value} {f : ForeD} (h : RdFore w B v1 v2 f) (hb : Below B' w w') (hB : B ≤ B') : RdFore w' B v1 v2 f := ⟨h.1.keep hb hB, h.2.keep hb hB⟩
theorem RdFore.mono {w : World} {B B' : Nat} {v1 v2 : Value} {f : ForeD} (h : RdFore w B v1 v2 f) (hB : B ≤ B') : RdFore w B' v1 v2 f := ⟨h.1.mono hB, h.2.mono hB⟩
/-- the surge at a minute, among the first k -/
def surgeIdx (ss : List SurgeD) (m : Int) : Nat → Nat
  | 0 => 0
  | k + 1 => if (ss.getD k default).start ≤ m then k else surgeIdx ss m k
theorem surgeIdx_lt (ss : List SurgeD) (m : Int) : ∀ k, 0 < k → surgeIdx ss m k < k
  | 0, h => by omega
  | k + 1, _ => by
    rw [surgeIdx]; split
    · omega
    · rcases Nat.eq_zero_or_pos k with h | h
      · subst h; simp [surgeIdx]
      · have := surgeIdx_lt ss m k h; omega
def surgeAt (f : ForeD) (m : Int) : SurgeD := f.surges.getD (surgeIdx f.surges m f.surges.length) default
def lowF (f : ForeD) (m : Int) : Int := level f.m0 f.parts m + (surgeAt f m).low
def highF (f : ForeD) (m : Int) : Int := level f.m0 f.parts m + (surgeAt f m).high
def lowAt (f : ForeD) (m : Int) : Int := if (foreOk f && inB m 0 2880) = true then lowF f m else 0
theorem foreOk_of {f : ForeD} (h : foreOk f = true) : tideOk f.m0 f.parts = true ∧ 1 ≤ f.surges.length ∧ f.surges.length ≤ 6 ∧ ∀ k (hk : k < f.surges.length), surgeOk f.surges[k] = true := by
  simp only [foreOk, Bool.and_eq_true] at h
  obtain ⟨⟨⟨h1, h2⟩, h3⟩, h4⟩ := h
  simp [inB] at h2
  refine ⟨h1, by omega, by omega, fun k hk => ?_⟩
  have := allUpTo_iff.1 h4 k hk
  unfold surgeRow at this
  rw [getD_at hk] at this
  simp only [Bool.and_eq_true] at this
  exact this.1
theorem surgeOk_of {s : SurgeD} (h : surgeOk s = true) : 0 ≤ s.start ∧ s.start ≤ 2880 ∧ -500 ≤ s.low ∧ s.low ≤ s.high ∧ s.high ≤ 500 := by
  simp [surgeOk, inB] at h; omega
theorem surgeAt_range {f : ForeD} {m : Int} (h : foreOk f = true) : -500 ≤ (surgeAt f m).low ∧ (surgeAt f m).low ≤ 500 ∧ -500 ≤ (surgeAt f m).high ∧ (surgeAt f m).high ≤ 500 := by
  obtain ⟨_, h1, _, h2⟩ := foreOk_of h
  have hlt := surgeIdx_lt f.surges m f.surges.length h1
  have := surgeOk_of (h2 _ hlt)
  unfold surgeAt
  rw [getD_at hlt]
  omega
theorem level_bd {f : ForeD} {m : Int} (h : foreOk f = true) : -5000 ≤ level f.m0 f.parts m ∧ level f.m0 f.parts m ≤ 5000 := by
  obtain ⟨h1, _⟩ := foreOk_of h
  obtain ⟨t0, t1, t2, t3⟩ := tideOk_of h1
  have := level_range (m0 := f.m0) (m := m) t3
  omega
theorem low_range {f : ForeD} {m : Int} (h : foreOk f = true) : -6000 ≤ lowF f m ∧ lowF f m ≤ 6000 := by
  have a := surgeAt_range (m := m) h; have b := level_bd (m := m) h; unfold lowF; omega
theorem high_range {f : ForeD} {m : Int} (h : foreOk f = true) : -6000 ≤ highF f m ∧ highF f m ≤ 6000 := by
  have a := surgeAt_range (m := m) h; have b := level_bd (m := m) h; unfold highF; omega
end Go.Proofs.Ytjfppjhlkeopnaa

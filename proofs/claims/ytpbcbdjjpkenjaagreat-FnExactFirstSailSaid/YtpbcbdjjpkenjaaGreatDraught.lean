/- The greatest draught for a start: both texts. No condition. -/
import Derived.Test.YtpbcbdjjpkenjaaGreatKeep
import Derived.Test.YtpbcbdjjpkenjaaGreatFore2
namespace Go.Proofs.YtpbcbdjjpkenjaaGreat
open Go.RowKit
set_option linter.unusedVariables false
def leastL (f : ForeD) (m : Int) : Nat → Int
  | 0 => lowF f m
  | j + 1 => min (leastL f m j) (lowF f (m + j))
def lastD (P : Int → Bool) : Nat → Int
  | 0 => 0
  | j + 1 => if P (100 + j) = true then 100 + (j : Int) else lastD P j
def withDraught (s : ShipD) (d : Int) : ShipD := ⟨s.name, s.length, d, s.line, s.tugs, s.slow⟩
def floats (f : ForeD) (c : ChartD) (k : Int) (s : ShipD) (l d : Int) : Bool := decide (levelFor c k (withDraught s d) ≤ l)
def canStart (f : ForeD) (c : ChartD) (k : Int) (s : ShipD) (m : Int) : Bool := foreOk f && onSeg c k s && inB m 0 (2880 - minutesOn c k s)
def draughtFor (f : ForeD) (c : ChartD) (k : Int) (s : ShipD) (m : Int) : Int := if canStart f c k s m = true then lastD (floats f c k s (leastL f m ((minutesOn c k s).toNat + 1))) 1901 else 0
theorem leastL_range {f : ForeD} {m : Int} (h : foreOk f = true) : ∀ j, -6000 ≤ leastL f m j ∧ leastL f m j ≤ 6000
  | 0 => low_range h
  | j + 1 => by
    have a := leastL_range (m := m) h j
    have b := low_range (m := m + j) h
    rw [leastL]; omega
theorem minutes_range (c : ChartD) (k : Int) (s : ShipD) : 0 ≤ minutesOn c k s ∧ minutesOn c k s ≤ 480 := by
  unfold minutesOn
  split
  · rename_i h
    obtain ⟨h1, h2, a, rfl, ha⟩ := onSeg_iff h
    rw [segAt_nat ha]
    have := chart_seg h1 ha
    have := shipMinutes_range (g := c.segs[a]) (s := s) (by omega) (by omega)
    omega
  · omega
theorem level_range2 (c : ChartD) (k : Int) (s : ShipD) : -3000 ≤ levelFor c k s ∧ levelFor c k s ≤ 2150 := by
  unfold levelFor
  split
  · rename_i h
    obtain ⟨h1, h2, a, rfl, ha⟩ := onSeg_iff h
    rw [segAt_nat ha]
    have := chart_seg h1 ha
    have := need_range h2
    omega
  · omega
/-- the boxes of the arguments: a forecast, a chart, a ship -/
def BoxF (w : World) (g : Nat) (m0 : Int) (v1 v2 : Value) : Prop := w.cell? ⟨g, 0, none⟩ = some (.int .i64 m0) ∧ w.cell? ⟨g, 1, none⟩ = some v1 ∧ w.cell? ⟨g, 2, none⟩ = some v2
theorem BoxF.keep {B g : Nat} {w w' : World} {m0 : Int} {v1 v2 : Value} (h : BoxF w g m0 v1 v2) (hb : Below B w w') (hg : g < B) : BoxF w' g m0 v1 v2 := ⟨cellKeep hb h.1 hg, cellKeep hb h.2.1 hg, cellKeep hb h.2.2 hg⟩
def BoxC (w : World) (g : Nat) (v1 v2 : Value) : Prop := w.cell? ⟨g, 0, none⟩ = some v1 ∧ w.cell? ⟨g, 1, none⟩ = some v2
theorem BoxC.keep {B g : Nat} {w w' : World} {v1 v2 : Value} (h : BoxC w g v1 v2) (hb : Below B w w') (hg : g < B) : BoxC w' g v1 v2 := ⟨cellKeep hb h.1 hg, cellKeep hb h.2 hg⟩
theorem BoxC.far {w : World} {g g' i : Nat} {v1 v2 v : Value} (h : BoxC w g v1 v2) (hne : g' ≠ g) : BoxC (w.setCell ⟨g', i, none⟩ v) g v1 v2 :=
  ⟨(World.cell?_setCell_other _ _ _ _ (fun e => hne (congrArg Addr.block e))).trans h.1, (World.cell?_setCell_other _ _ _ _ (fun e => hne (congrArg Addr.block e))).trans h.2⟩
def BoxS (w : World) (g : Nat) (x0 : ByteArray) (x1 x2 x3 x4 : Int) (x5 : Bool) : Prop := w.cell? ⟨g, 0, none⟩ = some (.string x0) ∧ w.cell? ⟨g, 1, none⟩ = some (.int .i64 x1) ∧ w.cell? ⟨g, 2, none⟩ = some (.int .i64 x2) ∧ w.cell? ⟨g, 3, none⟩ = some (.int .i64 x3) ∧ w.cell? ⟨g, 4, none⟩ = some (.int .i64 x4) ∧ w.cell? ⟨g, 5, none⟩ = some (.bool x5) ∧ w.frozen? ⟨g, 2, none⟩ = false
theorem BoxS.keep {B g : Nat} {w w' : World} {x0 : ByteArray} {x1 x2 x3 x4 : Int} {x5 : Bool} (h : BoxS w g x0 x1 x2 x3 x4 x5) (hb : Below B w w') (hg : g < B) : BoxS w' g x0 x1 x2 x3 x4 x5 :=
  ⟨cellKeep hb h.1 hg, cellKeep hb h.2.1 hg, cellKeep hb h.2.2.1 hg, cellKeep hb h.2.2.2.1 hg, cellKeep hb h.2.2.2.2.1 hg, cellKeep hb h.2.2.2.2.2.1 hg, frozenKeep hb h.2.2.2.2.2.2 hg⟩
theorem BoxS.set {w : World} {g : Nat} {x0 : ByteArray} {x1 x2 x3 x4 : Int} {x5 : Bool} (h : BoxS w g x0 x1 x2 x3 x4 x5) (d : Int) : BoxS (w.setCell ⟨g, 2, none⟩ (.int .i64 d)) g x0 x1 d x3 x4 x5 := by
  obtain ⟨h0, h1, h2, h3, h4, h5, h6⟩ := h
  have n : ∀ i, i ≠ 2 → (⟨g, 2, none⟩ : Addr) ≠ ⟨g, i, none⟩ := fun i hi e => hi (congrArg Addr.off e).symm
  exact ⟨(World.cell?_setCell_other _ _ _ _ (n 0 (by omega))).trans h0, (World.cell?_setCell_other _ _ _ _ (n 1 (by omega))).trans h1, World.cell?_setCell_same _ _ _ h2, (World.cell?_setCell_other _ _ _ _ (n 3 (by omega))).trans h3, (World.cell?_setCell_other _ _ _ _ (n 4 (by omega))).trans h4, (World.cell?_setCell_other _ _ _ _ (n 5 (by omega))).trans h5, by simpa [go_sem] using h6⟩
def cellInt (w : World) (a : Addr) : Int := match w.cell? a with
  | some v => intOf v
  | none => 0
theorem cellInt_of {w : World} {a : Addr} {n : Int} (h : w.cell? a = some (.int .i64 n)) : cellInt w a = n := by unfold cellInt; rw [h]; rfl
theorem lastD_succ (P : Int → Bool) (j : Nat) : lastD P (j + 1) = if P (100 + j) = true then 100 + (j : Int) else lastD P j := rfl
end Go.Proofs.YtpbcbdjjpkenjaaGreat

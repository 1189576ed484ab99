/- The greatest draught for a start: both texts. No condition. -/
import Derived.Test.YtpbcbdjjpkenjaaKeep
import Derived.Test.YtpbcbdjjpkenjaaFore2
namespace Go.Proofs.Ytpbcbdjjpkenjaa
open Go.RowKit
set_option linter.unusedVariables false
def leastL (f : ForeD) (m : Int) : Nat → Int
  | 0 => lowF f m
  | j + 1 => min (leastL f m j) (lowF f (m + j))
def lastD (P : Int → Bool) : Nat → Int
  | 0 => 0
  | j + 1 => if P (100 + j) = true then 100 + (j : Int) else lastD P j
def withDraught (s : ShipD) (d : Int) : ShipD := ⟨s.name, s.length, d, s.line, s.tugs, s.slow⟩
def floats (f : ForeD) (c : ChartD) (k : Int) (s : ShipD) (l d : Int) : Bool := decide (levelFor c k (withDraught s d) ≤ l)
def canStart (f : ForeD) (c : ChartD) (k : Int) (s : ShipD) (m : Int) : Bool := foreOk f && onSeg c k s && inB m 0 (2880 - minutesOn c k s)
def draughtFor (f : ForeD) (c : ChartD) (k : Int) (s : ShipD) (m : Int) : Int := if canStart f c k s m = true then lastD (floats f c k s (leastL f m ((minutesOn c k s).toNat + 1))) 1901 else 0
theorem leastL_range {f : ForeD} {m : Int} (h : foreOk f = true) : ∀ j, -6000 ≤ leastL f m j ∧ leastL f m j ≤ 6000
  | 0 => low_range h
  | j + 1 => by
    have a := leastL_range (m := m) h j
    have b := low_range (m := m + j) h
    rw [leastL]; omega
theorem minutes_range (c : ChartD) (k : Int) (s : ShipD) : 0 ≤ minutesOn c k s ∧ minutesOn c k s ≤ 480 := by
  unfold minutesOn
  split
  · rename_i h
    obtain ⟨h1, h2, a, rfl, ha⟩ := onSeg_iff h
    rw [segAt_nat ha]
    have := chart_seg h1 ha
    have := shipMinutes_range (g := c.segs[a]) (s := s) (by omega) (by omega)
    omega
  · omega
theorem level_range2 (c : ChartD) (k : Int) (s : ShipD) : -3000 ≤ levelFor c k s ∧ levelFor c k s ≤ 2150 := by
  unfold levelFor
  split
  · rename_i h
    obtain ⟨h1, h2, a, rfl, ha⟩ := onSeg_iff h
    rw [segAt_nat ha]
    have := chart_seg h1 ha
    have := need_range h2
    omega
  · omega
/-- the boxes of the arguments: a forecast, a chart, a ship -/
def BoxF (w : World) (g : Nat) (m0 : Int) (v1 v2 : Value) : Prop := w.cell? ⟨g, 0, none⟩ = some (.int .i64 m0) ∧ w.cell? ⟨g, 1, none⟩ = some v1 ∧ w.cell? ⟨g, 2, none⟩ = some v2
theorem BoxF.keep {B g : Nat} {w w' : World} {m0 : Int} {v1 v2 : Value} (h : BoxF w g m0 v1 v2) (hb : Below B w w') (hg : g < B) : BoxF w' g m0 v1 v2 := ⟨cellKeep hb h.1 hg, cellKeep hb h.2.1 hg, cellKeep hb h.2.2 hg⟩
def BoxC (w : World) (g : Nat) (v1 v2 : Value) : Prop := w.cell? ⟨g, 0, none⟩ = some v1 ∧ w.cell? ⟨g, 1, none⟩ = some v2
theorem BoxC.keep {B g : Nat} {w w' : World} {v1 v2 : Value} (h : BoxC w g v1 v2) (hb : Below B w w') (hg : g < B) : BoxC w' g v1 v2 := ⟨cellKeep hb h.1 hg, cellKeep hb h.2 hg⟩
theorem BoxC.far {w : World} {g g' i : Nat} {v1 v2 v : Value} (h : BoxC w g v1 v2) (hne : g' ≠ g) : BoxC (w.setCell ⟨g', i, none⟩ v) g v1 v2 :=
  ⟨(World.cell?_setCell_other _ _ _ _ (fun e => hne (congrArg Addr.block e))).trans h.1, (World.cell?_setCell_other _ _ _ _ (fun e => hne (congrArg Addr.block e))).trans h.2⟩
def BoxS (w : World) (g : Nat) (x0 : ByteArray) (x1 x2 x3 x4 : Int) (x5 : Bool) : Prop := w.cell? ⟨g, 0, none⟩ = some (.string x0) ∧ w.cell? ⟨g, 1, none⟩ = some (.int .i64 x1) ∧ w.cell? ⟨g, 2, none⟩ = some (.int .i64 x2) ∧ w.cell? ⟨g, 3, none⟩ = some (.int .i64 x3) ∧ w.cell? ⟨g, 4, none⟩ = some (.int .i64 x4) ∧ w.cell? ⟨g, 5, none⟩ = some (.bool x5) ∧ w.frozen? ⟨g, 2, none⟩ = false
theorem BoxS.keep {B g : Nat} {w w' : World} {x0 : ByteArray} {x1 x2 x3 x4 : Int} {x5 : Bool} (h : BoxS w g x0 x1 x2 x3 x4 x5) (hb : Below B w w') (hg : g < B) : BoxS w' g x0 x1 x2 x3 x4 x5 :=
  ⟨cellKeep hb h.1 hg, cellKeep hb h.2.1 hg, cellKeep hb h.2.2.1 hg, cellKeep hb h.2.2.2.1 hg, cellKeep hb h.2.2.2.2.1 hg, cellKeep hb h.2.2.2.2.2.1 hg, frozenKeep hb h.2.2.2.2.2.2 hg⟩
theorem BoxS.set {w : World} {g : Nat} {x0 : ByteArray} {x1 x2 x3 x4 : Int} {x5 : Bool} (h : BoxS w g x0 x1 x2 x3 x4 x5) (d : Int) : BoxS (w.setCell ⟨g, 2, none⟩ (.int .i64 d)) g x0 x1 d x3 x4 x5 := by
  obtain ⟨h0, h1, h2, h3, h4, h5, h6⟩ := h
  have n : ∀ i, i ≠ 2 → (⟨g, 2, none⟩ : Addr) ≠ ⟨g, i, none⟩ := fun i hi e => hi (congrArg Addr.off e).symm
  exact ⟨(World.cell?_setCell_other _ _ _ _ (n 0 (by omega))).trans h0, (World.cell?_setCell_other _ _ _ _ (n 1 (by omega))).trans h1, World.cell?_setCell_same _ _ _ h2, (World.cell?_setCell_other _ _ _ _ (n 3 (by omega))).trans h3, (World.cell?_setCell_other _ _ _ _ (n 4 (by omega))).trans h4, (World.cell?_setCell_other _ _ _ _ (n 5 (by omega))).trans h5, by simpa [go_sem] using h6⟩
def cellInt (w : World) (a : Addr) : Int := match w.cell? a with
  | some v => intOf v
  | none => 0
theorem cellInt_of {w : World} {a : Addr} {n : Int} (h : w.cell? a = some (.int .i64 n)) : cellInt w a = n := by unfold cellInt; rw [h]; rfl
theorem lastD_succ (P : Int → Bool) (j : Nat) : lastD P (j + 1) = if P (100 + j) = true then 100 + (j : Int) else lastD P j := rfl
set_option maxRecDepth 100000 in
set_option maxHeartbeats 16000000 in
theorem spec_DraughtFor_any (v1 v2 v3 v4 : Value) (f : ForeD) (c : ChartD) (k : Int) (s : ShipD) (m : Int) (w : World) (h : RdFore w w.heap.size v1 v2 f) (hch : RdChart w w.heap.size v3 v4 c) (hokp : ∀ x ∈ c.points, x.name.size ≤ maxLen) (hs : s.name.size ≤ maxLen) :
    Calls Try.prog 27 #[.agg #[.int .i64 f.m0, v1, v2], .agg #[v3, v4], .int .i64 k, s.val, .int .i64 m] w fun e w' => e = .returned (.int .i64 (draughtFor f c k s m)) ∧ Below w.heap.size w w' := by
  have HFR := hide h; have HCR := hide hch
  obtain ⟨m0, ps, ss⟩ := f
  obtain ⟨x0, x1, x2, x3, x4, x5⟩ := s
  obtain ⟨h1, h2⟩ := h
  obtain ⟨h3, h4⟩ := hch
  simp only at h1 h2 hs HFR ⊢
  obtain ⟨A1, c1, rfl, hc1, hm1, h1⟩ := h1
  obtain ⟨A2, c2, rfl, hc2, hm2, h2⟩ := h2
  obtain ⟨A3, c3, rfl, hc3, hm3, h3⟩ := h3
  obtain ⟨A4, c4, rfl, hc4, hm4, h4⟩ := h4
  unfold maxLen at hm1 hm2 hm3 hm4
  clear h1 h2 h3 h4
  have hnr := minutes_range c k ⟨x0, x1, x2, x3, x4, x5⟩
  obtain ⟨n, hn⟩ : ∃ n : Nat, minutesOn c k ⟨x0, x1, x2, x3, x4, x5⟩ = n := ⟨(minutesOn c k ⟨x0, x1, x2, x3, x4, x5⟩).toNat, by omega⟩
  rw [hn] at hnr
  have HN := hide hn
  have HV := hide (show draughtFor ⟨m0, ps, ss⟩ c k ⟨x0, x1, x2, x3, x4, x5⟩ m = if (foreOk ⟨m0, ps, ss⟩ && onSeg c k ⟨x0, x1, x2, x3, x4, x5⟩ && inB m 0 (2880 - (n : Int))) = true then lastD (floats ⟨m0, ps, ss⟩ c k ⟨x0, x1, x2, x3, x4, x5⟩ (leastL ⟨m0, ps, ss⟩ m (n + 1))) 1901 else 0 by unfold draughtFor canStart; rw [hn, Int.toNat_natCast])
  clear hn
  have hnw : IntKind.i64.wrap (2880 - (n : Int)) = 2880 - (n : Int) := IntWalk.i64_in _ (by omega)
  rcases ch3 (foreOk ⟨m0, ps, ss⟩) (onSeg c k ⟨x0, x1, x2, x3, x4, x5⟩) (inB m 0 (2880 - (n : Int))) with ⟨g1, g2, g3⟩ | g1 | ⟨g1, g2⟩ | ⟨g1, g2, g3⟩
  · have hv := HV.out
    rw [g1, g2, g3] at hv
    simp only [Bool.and_self, if_true] at hv
    replace HV := hide hv; clear hv
    have HOK := hide g1
    have hm : 0 ≤ m ∧ m ≤ 2880 - n := by simp [inB] at g3; omega
    obtain ⟨q0, q1⟩ := hm
    have hmin : inB m 0 2880 = true := by simp [inB]; omega
    have hmn : ¬ (2880 : Int) < m + n := by omega
    have HLL := hide (fun j : Nat => leastL_range (m := m) g1 j)
    have HLR := hide (fun x : Int => low_range (m := x) g1)
    have HLA := hide (show ∀ x : Int, 0 ≤ x → x ≤ 2880 → lowAt ⟨m0, ps, ss⟩ x = lowF ⟨m0, ps, ss⟩ x from fun x a b => by unfold lowAt; rw [if_pos]; rw [g1]; simp [inB]; omega)
    obtain ⟨l0, hl0⟩ : ∃ l, lowF ⟨m0, ps, ss⟩ m = l := ⟨_, rfl⟩
    have HLOW := hide (show lowAt ⟨m0, ps, ss⟩ m = l0 by rw [HLA.out m (by omega) (by omega), hl0])
    have hl00 := HLR.out m
    rw [hl0] at hl00
    have HL0 := hide hl0; clear hl0
    go_enter Try.func27, Try.ntmps27
    go_wp2_with (first
      | (go_at_call 66; with_reducible refine (spec_ForecastOk_any _ _ ⟨m0, ps, ss⟩ _ ((HFR.out.keep (B' := w.heap.size) (by repeat (first | exact Below.refl _ _ | assumption | refine Below.setCell ?_ (by first | omega | (simp <;> omega)) _ | refine Below.alloc ?_ (by first | omega | (simp <;> omega)) _ | refine below_drewN ?_ _ | refine Below.drew ?_ | refine Below.trans ?_ (Below.mono (by assumption) (by first | omega | (simp <;> omega))))) (Nat.le_refl _)).mono (by first | omega | (simp <;> omega)))).mono ?_; rintro e w1 ⟨rfl, hb'⟩; (first | have hb := bnext hb hb' | have hb := bnextA hb hb' | have hb := hb'); clear hb'; obtain ⟨hc, hf⟩ := bcell hb; have hz := hb.size; (try simp at hz))
      | (go_at_call 67; with_reducible refine (spec_l07Ok_any _ _ c k ⟨x0, x1, x2, x3, x4, x5⟩ _ ((HCR.out.keep (B' := w.heap.size) (by repeat (first | exact Below.refl _ _ | assumption | refine Below.setCell ?_ (by first | omega | (simp <;> omega)) _ | refine Below.alloc ?_ (by first | omega | (simp <;> omega)) _ | refine below_drewN ?_ _ | refine Below.drew ?_ | refine Below.trans ?_ (Below.mono (by assumption) (by first | omega | (simp <;> omega))))) (Nat.le_refl _)).mono (by first | omega | (simp <;> omega))) hokp hs).mono ?_; rintro e w1 ⟨rfl, hb'⟩; (first | have hb := bnext hb hb' | have hb := bnextA hb hb' | have hb := hb'); clear hb'; obtain ⟨hc, hf⟩ := bcell hb; have hz := hb.size; (try simp at hz))
      | (go_at_call 69; with_reducible refine (spec_MinutesOn_any _ _ c k ⟨x0, x1, x2, x3, x4, x5⟩ _ ((HCR.out.keep (B' := w.heap.size) (by repeat (first | exact Below.refl _ _ | assumption | refine Below.setCell ?_ (by first | omega | (simp <;> omega)) _ | refine Below.alloc ?_ (by first | omega | (simp <;> omega)) _ | refine below_drewN ?_ _ | refine Below.drew ?_ | refine Below.trans ?_ (Below.mono (by assumption) (by first | omega | (simp <;> omega))))) (Nat.le_refl _)).mono (by first | omega | (simp <;> omega))) hokp hs).mono ?_; rintro e w1 ⟨rfl, hb'⟩; rw [HN.out]; (first | have hb := bnext hb hb' | have hb := bnextA hb hb' | have hb := hb'); clear hb'; obtain ⟨hc, hf⟩ := bcell hb; have hz := hb.size; (try simp at hz))
      | (go_at_call 68; with_reducible refine (l01In_any _ _ _ _).mono ?_; rintro e w1 ⟨rfl, hw⟩; obtain rfl := hw.symm)
      | (go_at_call 70; with_reducible refine (spec_LowAt_any _ _ ⟨m0, ps, ss⟩ _ _ ((HFR.out.keep (B' := w.heap.size) (by repeat (first | exact Below.refl _ _ | assumption | refine Below.setCell ?_ (by first | omega | (simp <;> omega)) _ | refine Below.alloc ?_ (by first | omega | (simp <;> omega)) _ | refine below_drewN ?_ _ | refine Below.drew ?_ | refine Below.trans ?_ (Below.mono (by assumption) (by first | omega | (simp <;> omega))))) (Nat.le_refl _)).mono (by first | omega | (simp <;> omega)))).mono ?_; rintro e w1 ⟨rfl, hb'⟩; rw [HLOW.out]; (first | have hb := bnext hb hb' | have hb := bnextA hb hb' | have hb := hb'); clear hb'; obtain ⟨hc, hf⟩ := bcell hb; have hz := hb.size; (try simp at hz)))
    have ZF := hide (show BoxF w1 w.heap.size m0 (.slice A1 ps.length c1) (.slice A2 ss.length c2) from ⟨by rw [hc _ _ (by simp <;> omega)]; simp [go_sem], by rw [hc _ _ (by simp <;> omega)]; simp [go_sem], by rw [hc _ _ (by simp <;> omega)]; simp [go_sem]⟩)
    have ZC := hide (show BoxC w1 (w.heap.size + 1) (.slice A3 c.points.length c3) (.slice A4 c.segs.length c4) from ⟨by rw [hc _ _ (by simp)]; simp [go_sem], by rw [hc _ _ (by simp)]; simp [go_sem]⟩)
    have ZS := hide (show BoxS w1 (w.heap.size + 1 + 1) x0 x1 x2 x3 x4 x5 from ⟨by rw [hc _ _ (by simp)]; simp [go_sem], by rw [hc _ _ (by simp)]; simp [go_sem], by rw [hc _ _ (by simp)]; simp [go_sem], by rw [hc _ _ (by simp)]; simp [go_sem], by rw [hc _ _ (by simp)]; simp [go_sem], by rw [hc _ _ (by simp)]; simp [go_sem], by rw [hf _ _ (by simp)]; simp [go_sem]⟩)
    have hbw : Below w.heap.size w w1 := (by repeat (first | exact Below.refl _ _ | assumption | refine Below.setCell ?_ (by first | omega | (simp <;> omega)) _ | refine Below.alloc ?_ (by first | omega | (simp <;> omega)) _ | refine below_drewN ?_ _ | refine Below.drew ?_ | refine Below.trans ?_ (Below.mono (by assumption) (by first | omega | (simp <;> omega)))))
    have hs1 := hb.size
    simp only [World.size_alloc] at hs1
    clear hc hf hz hb HLOW
    obtain ⟨gC, hgC⟩ : ∃ g, w.heap.size + 1 = g := ⟨_, rfl⟩
    rw [hgC] at ZC ZS hs1 ⊢
    obtain ⟨gS, hgS⟩ : ∃ g, gC + 1 = g := ⟨_, rfl⟩
    rw [hgS] at ZS hs1 ⊢
    have k1 : w.heap.size < w1.heap.size := by omega
    have k2 : gC < w1.heap.size := by omega
    have k3 : gS < w1.heap.size := by omega
    have k4 : gS ≠ gC := by omega
    have k5 : w.heap.size ≤ gS := by omega
    clear hgC hgS hs1
    have hmnw : IntKind.i64.wrap (m + (n : Int)) = m + n := IntWalk.i64_in _ (by omega)
    go_loopw [11, 12] (fun av mv wr => ∃ (j : Nat) (a : Int), j ≤ n + 1 ∧ av = .int .i64 a ∧ mv = .int .i64 (m + j) ∧ Hid (leastL ⟨m0, ps, ss⟩ m j = a) ∧ -6000 ≤ a ∧ a ≤ 6000 ∧ Below w1.heap.size w1 wr) (fun _ mv _ => n + 1 - (intOf mv - m).toNat)
    case atStart => exact ⟨0, l0, by omega, rfl, by simp, hide HL0.out, hl00.1, hl00.2, Below.refl _ _⟩
    case round =>
      obtain ⟨j, a, hj, rfl, rfl, HA, ha0, ha1, hbk⟩ := hrel
      obtain ⟨wo, rfl⟩ : ∃ wo : World, wo = wr := ⟨_, rfl⟩
      have hbs := hbk.size
      have hb0 := bnext hbw hbk (Nat.le_refl _)
      obtain ⟨r0, r1, r2⟩ := ZF.out.keep hbk k1
      obtain ⟨s0, s1⟩ := ZC.out.keep hbk k2
      obtain ⟨t0, t1, t2, t3, t4, t5, t6⟩ := ZS.out.keep hbk k3
      have l1 : w.heap.size < wo.heap.size := by omega
      have l2 : gC < wo.heap.size := by omega
      have l3 : gS < wo.heap.size := by omega
      have hb := Below.refl wo.heap.size wo
      by_cases hjn : j ≤ n
      · have hcond : m + (j : Int) ≤ m + n := by omega
        have hll := HLR.out (m + j)
        obtain ⟨b, hbv⟩ : ∃ b, lowF ⟨m0, ps, ss⟩ (m + j) = b := ⟨_, rfl⟩
        rw [hbv] at hll
        have HSTEP := hide (show leastL ⟨m0, ps, ss⟩ m (j + 1) = min a b by rw [leastL, HA.out, hbv])
        have HLOW := hide (show lowAt ⟨m0, ps, ss⟩ (m + j) = b by rw [HLA.out (m + j) (by omega) (by omega), hbv])
        clear hbv
        have hj1 : m + ((j + 1 : Nat) : Int) = m + j + 1 := by omega
        have HJ1 := hide hj1; clear hj1
        have hjw : IntKind.i64.wrap (m + (j : Int) + 1) = m + j + 1 := IntWalk.i64_in _ (by omega)
        by_cases hab : a ≤ b
        · have HS2 := hide (show leastL ⟨m0, ps, ss⟩ m (j + 1) = a by rw [HSTEP.out]; omega)
          go_wp2_with (first
      | (go_at_call 69; with_reducible refine (spec_MinutesOn_any _ _ c k ⟨x0, x1, x2, x3, x4, x5⟩ _ ((HCR.out.keep (B' := w.heap.size) (bnext hb0 hb (Nat.le_refl _)) (Nat.le_refl _)).mono (by have := hb.size; omega)) hokp hs).mono ?_; rintro e w1 ⟨rfl, hb'⟩; rw [HN.out]; have hb := bnext hb hb' (Nat.le_refl _); clear hb'; obtain ⟨hc, hf⟩ := bcell hb)
      | (go_at_call 70; with_reducible refine (spec_LowAt_any _ _ ⟨m0, ps, ss⟩ _ _ ((HFR.out.keep (B' := w.heap.size) (bnext hb0 hb (Nat.le_refl _)) (Nat.le_refl _)).mono (by have := hb.size; omega))).mono ?_; rintro e w1 ⟨rfl, hb'⟩; rw [HLOW.out]; have hb := bnext hb hb' (Nat.le_refl _); clear hb'; obtain ⟨hc, hf⟩ := bcell hb))
          all_goals try (exfalso; omega)
          go_roundw
          case rel => exact ⟨j + 1, a, by omega, rfl, by rw [HJ1.out], HS2, ha0, ha1, bnext hbk hb (Nat.le_refl _)⟩
          case measure => simp [intOf]; omega
        · have HS2 := hide (show leastL ⟨m0, ps, ss⟩ m (j + 1) = b by rw [HSTEP.out]; omega)
          go_wp2_with (first
      | (go_at_call 69; with_reducible refine (spec_MinutesOn_any _ _ c k ⟨x0, x1, x2, x3, x4, x5⟩ _ ((HCR.out.keep (B' := w.heap.size) (bnext hb0 hb (Nat.le_refl _)) (Nat.le_refl _)).mono (by have := hb.size; omega)) hokp hs).mono ?_; rintro e w1 ⟨rfl, hb'⟩; rw [HN.out]; have hb := bnext hb hb' (Nat.le_refl _); clear hb'; obtain ⟨hc, hf⟩ := bcell hb)
      | (go_at_call 70; with_reducible refine (spec_LowAt_any _ _ ⟨m0, ps, ss⟩ _ _ ((HFR.out.keep (B' := w.heap.size) (bnext hb0 hb (Nat.le_refl _)) (Nat.le_refl _)).mono (by have := hb.size; omega))).mono ?_; rintro e w1 ⟨rfl, hb'⟩; rw [HLOW.out]; have hb := bnext hb hb' (Nat.le_refl _); clear hb'; obtain ⟨hc, hf⟩ := bcell hb))
          all_goals try (exfalso; omega)
          go_roundw
          case rel => exact ⟨j + 1, b, by omega, rfl, by rw [HJ1.out], HS2, hll.1, hll.2, bnext hbk hb (Nat.le_refl _)⟩
          case measure => simp [intOf]; omega
      · obtain rfl : j = n + 1 := by omega
        have hcond : ¬ (m + ((n + 1 : Nat) : Int)) ≤ m + n := by omega
        have HV2 := hide (show draughtFor ⟨m0, ps, ss⟩ c k ⟨x0, x1, x2, x3, x4, x5⟩ m = lastD (floats ⟨m0, ps, ss⟩ c k ⟨x0, x1, x2, x3, x4, x5⟩ a) 1901 by rw [HV.out, HA.out])
        clear hj hjn
        go_wp2_with (first
      | (go_at_call 69; with_reducible refine (spec_MinutesOn_any _ _ c k ⟨x0, x1, x2, x3, x4, x5⟩ _ ((HCR.out.keep (B' := w.heap.size) (bnext hb0 hb (Nat.le_refl _)) (Nat.le_refl _)).mono (by have := hb.size; omega)) hokp hs).mono ?_; rintro e w1 ⟨rfl, hb'⟩; rw [HN.out]; have hb := bnext hb hb' (Nat.le_refl _); clear hb'; obtain ⟨hc, hf⟩ := bcell hb))
        have hbL := bnext hbk hb (Nat.le_refl _)
        have hbLs := hbL.size
        go_loopw [13] (fun dv wr => ∃ (j : Nat) (d y : Int), j ≤ 1901 ∧ dv = .int .i64 d ∧ Hid (d = 99 + j) ∧ 99 ≤ d ∧ d ≤ 2000 ∧ Hid (lastD (floats ⟨m0, ps, ss⟩ c k ⟨x0, x1, x2, x3, x4, x5⟩ a) 1901 = lastD (floats ⟨m0, ps, ss⟩ c k ⟨x0, x1, x2, x3, x4, x5⟩ a) j) ∧ Hid (BoxC wr gC (.slice A3 c.points.length c3) (.slice A4 c.segs.length c4)) ∧ Hid (BoxS wr gS x0 x1 y x3 x4 x5) ∧ gC < wr.heap.size ∧ gS < wr.heap.size ∧ Below w.heap.size w wr) (fun dv _ => (intOf dv).toNat)
        case atStart => exact ⟨1901, 2000, x2, Nat.le_refl _, rfl, hide (by decide), by decide, by decide, hide rfl, hide (ZC.out.keep hbL k2), hide (ZS.out.keep hbL k3), by omega, by omega, bnext hbw hbL (Nat.le_refl _)⟩
        case round =>
          rename_i wr2
          obtain ⟨j, d, y, hj, rfl, HD, hd0, hd1, HLD, HBC, HBS, hgc, hgs, hbk2⟩ := hrel
          obtain ⟨wi, rfl⟩ : ∃ wi : World, wi = wr := ⟨_, rfl⟩
          have hbis := hbk2.size
          by_cases hge : 100 ≤ d
          · obtain ⟨i, hi⟩ : ∃ i, j = i + 1 := ⟨j - 1, by have := HD.out; omega⟩
            have HI := hide (show d = 100 + (i : Int) by have := HD.out; omega)
            have HSTEP := hide (show lastD (floats ⟨m0, ps, ss⟩ c k ⟨x0, x1, x2, x3, x4, x5⟩ a) j = if floats ⟨m0, ps, ss⟩ c k ⟨x0, x1, x2, x3, x4, x5⟩ a d = true then d else lastD (floats ⟨m0, ps, ss⟩ c k ⟨x0, x1, x2, x3, x4, x5⟩ a) i by rw [hi, lastD_succ, HI.out])
            obtain ⟨e, he⟩ : ∃ e, d - 1 = e := ⟨_, rfl⟩
            have hew : IntKind.i64.wrap e = e := IntWalk.i64_in _ (by omega)
            have hde : IntKind.i64.wrap (d - 1) = e := by rw [he]; exact hew
            have HE := hide (show e = 99 + (i : Int) by have := HI.out; omega)
            have hi1 : i ≤ 1901 := by omega
            have hmeas : e.toNat < d.toNat := by omega
            have hlr := level_range2 c k ⟨x0, x1, d, x3, x4, x5⟩
            obtain ⟨lv, hlv⟩ : ∃ lv, levelFor c k ⟨x0, x1, d, x3, x4, x5⟩ = lv := ⟨_, rfl⟩
            rw [hlv] at hlr
            have HFL := hide (show floats ⟨m0, ps, ss⟩ c k ⟨x0, x1, x2, x3, x4, x5⟩ a d = decide (lv ≤ a) by unfold floats withDraught; rw [hlv])
            have HLV := hide hlv
            clear hlv hi
            have HC3 := hide (HBC.out.far (i := 2) (v := .int .i64 d) k4)
            have HS3 := hide (HBS.out.set d)
            have hb3 : Below w.heap.size w (wi.setCell ⟨gS, 2, none⟩ (.int .i64 d)) := hbk2.setCell (p := ⟨gS, 2, none⟩) k5 _
            have hz3 : (wi.setCell ⟨gS, 2, none⟩ (.int .i64 d)).heap.size = wi.heap.size := by simp [World.setCell]
            obtain ⟨t0, t1, t2, t3, t4, t5, t6⟩ := HBS.out
            obtain ⟨s0, s1⟩ := HBC.out
            obtain ⟨p0, p1⟩ := HC3.out
            obtain ⟨u0, u1, u2, u3, u4, u5, u6⟩ := HS3.out
            by_cases hfl : lv ≤ a
            · have HF := hide (show draughtFor ⟨m0, ps, ss⟩ c k ⟨x0, x1, x2, x3, x4, x5⟩ m = d by rw [HV2.out, HLD.out, HSTEP.out, HFL.out, if_pos (by simpa using hfl)])
              go_wp2_with (go_at_call 71; with_reducible refine (spec_LevelFor_any _ _ c k ⟨x0, x1, d, x3, x4, x5⟩ _ ((HCR.out.keep (B' := w.heap.size) hb3 (Nat.le_refl _)).mono (by omega)) hokp hs).mono ?_; rintro e5 w5 ⟨rfl, hb5⟩; rw [HLV.out])
              go_ret
              exact ⟨ret_int (by rw [HF.out]), bnext hb3 hb5 (by omega)⟩
            · have HLD2 := hide (show lastD (floats ⟨m0, ps, ss⟩ c k ⟨x0, x1, x2, x3, x4, x5⟩ a) 1901 = lastD (floats ⟨m0, ps, ss⟩ c k ⟨x0, x1, x2, x3, x4, x5⟩ a) i by rw [HLD.out, HSTEP.out, HFL.out, if_neg (by simpa using hfl)])
              go_wp2_with (go_at_call 71; with_reducible refine (spec_LevelFor_any _ _ c k ⟨x0, x1, d, x3, x4, x5⟩ _ ((HCR.out.keep (B' := w.heap.size) hb3 (Nat.le_refl _)).mono (by omega)) hokp hs).mono ?_; rintro e5 w5 ⟨rfl, hb5⟩; rw [HLV.out])
              have hs5 := hb5.size
              go_roundw
              case rel => exact ⟨i, e, d, hi1, rfl, HE, by omega, by omega, HLD2, hide (HC3.out.keep hb5 (by omega)), hide (HS3.out.keep hb5 (by omega)), by omega, by omega, bnext hb3 hb5 (by omega)⟩
              case measure => simp [intOf]; omega
          · obtain rfl : j = 0 := by have := HD.out; omega
            have HF := hide (show draughtFor ⟨m0, ps, ss⟩ c k ⟨x0, x1, x2, x3, x4, x5⟩ m = 0 by rw [HV2.out, HLD.out]; rfl)
            go_wp2
            go_ret
            exact ⟨ret_int (by rw [HF.out]), hbk2⟩
  all_goals
    have HF := hide (show draughtFor ⟨m0, ps, ss⟩ c k ⟨x0, x1, x2, x3, x4, x5⟩ m = 0 by rw [HV.out]; first | (rw [g1, g2, g3]; rfl) | (rw [g1, g2]; rfl) | (rw [g1]; rfl))
    go_enter Try.func27, Try.ntmps27
    go_wp2_with (first
      | (go_at_call 66; with_reducible refine (spec_ForecastOk_any _ _ ⟨m0, ps, ss⟩ _ ((HFR.out.keep (B' := w.heap.size) (by repeat (first | exact Below.refl _ _ | assumption | refine Below.setCell ?_ (by first | omega | (simp <;> omega)) _ | refine Below.alloc ?_ (by first | omega | (simp <;> omega)) _ | refine below_drewN ?_ _ | refine Below.drew ?_ | refine Below.trans ?_ (Below.mono (by assumption) (by first | omega | (simp <;> omega))))) (Nat.le_refl _)).mono (by first | omega | (simp <;> omega)))).mono ?_; rintro e w1 ⟨rfl, hb'⟩; (first | have hb := bnext hb hb' | have hb := bnextA hb hb' | have hb := hb'); clear hb'; obtain ⟨hc, hf⟩ := bcell hb; have hz := hb.size; (try simp at hz))
      | (go_at_call 67; with_reducible refine (spec_l07Ok_any _ _ c k ⟨x0, x1, x2, x3, x4, x5⟩ _ ((HCR.out.keep (B' := w.heap.size) (by repeat (first | exact Below.refl _ _ | assumption | refine Below.setCell ?_ (by first | omega | (simp <;> omega)) _ | refine Below.alloc ?_ (by first | omega | (simp <;> omega)) _ | refine below_drewN ?_ _ | refine Below.drew ?_ | refine Below.trans ?_ (Below.mono (by assumption) (by first | omega | (simp <;> omega))))) (Nat.le_refl _)).mono (by first | omega | (simp <;> omega))) hokp hs).mono ?_; rintro e w1 ⟨rfl, hb'⟩; (first | have hb := bnext hb hb' | have hb := bnextA hb hb' | have hb := hb'); clear hb'; obtain ⟨hc, hf⟩ := bcell hb; have hz := hb.size; (try simp at hz))
      | (go_at_call 69; with_reducible refine (spec_MinutesOn_any _ _ c k ⟨x0, x1, x2, x3, x4, x5⟩ _ ((HCR.out.keep (B' := w.heap.size) (by repeat (first | exact Below.refl _ _ | assumption | refine Below.setCell ?_ (by first | omega | (simp <;> omega)) _ | refine Below.alloc ?_ (by first | omega | (simp <;> omega)) _ | refine below_drewN ?_ _ | refine Below.drew ?_ | refine Below.trans ?_ (Below.mono (by assumption) (by first | omega | (simp <;> omega))))) (Nat.le_refl _)).mono (by first | omega | (simp <;> omega))) hokp hs).mono ?_; rintro e w1 ⟨rfl, hb'⟩; rw [HN.out]; (first | have hb := bnext hb hb' | have hb := bnextA hb hb' | have hb := hb'); clear hb'; obtain ⟨hc, hf⟩ := bcell hb; have hz := hb.size; (try simp at hz))
      | (go_at_call 68; with_reducible refine (l01In_any _ _ _ _).mono ?_; rintro e w1 ⟨rfl, hw⟩; obtain rfl := hw.symm)
      | (go_at_call 70; with_reducible refine (spec_LowAt_any _ _ ⟨m0, ps, ss⟩ _ _ ((HFR.out.keep (B' := w.heap.size) (by repeat (first | exact Below.refl _ _ | assumption | refine Below.setCell ?_ (by first | omega | (simp <;> omega)) _ | refine Below.alloc ?_ (by first | omega | (simp <;> omega)) _ | refine below_drewN ?_ _ | refine Below.drew ?_ | refine Below.trans ?_ (Below.mono (by assumption) (by first | omega | (simp <;> omega))))) (Nat.le_refl _)).mono (by first | omega | (simp <;> omega)))).mono ?_; rintro e w1 ⟨rfl, hb'⟩; rw [HLOW.out]; (first | have hb := bnext hb hb' | have hb := bnextA hb hb' | have hb := hb'); clear hb'; obtain ⟨hc, hf⟩ := bcell hb; have hz := hb.size; (try simp at hz)))
    all_goals go_ret
    all_goals exact ⟨ret_int (by rw [HF.out]), (by repeat (first | exact Below.refl _ _ | assumption | refine Below.setCell ?_ (by first | omega | (simp <;> omega)) _ | refine Below.alloc ?_ (by first | omega | (simp <;> omega)) _ | refine below_drewN ?_ _ | refine Below.drew ?_ | refine Below.trans ?_ (Below.mono (by assumption) (by first | omega | (simp <;> omega)))))⟩
set_option maxRecDepth 100000 in
set_option maxHeartbeats 16000000 in
theorem impl_DraughtFor_any (v1 v2 v3 v4 : Value) (f : ForeD) (c : ChartD) (k : Int) (s : ShipD) (m : Int) (w : World) (h : RdFore w w.heap.size v1 v2 f) (hch : RdChart w w.heap.size v3 v4 c) (hokp : ∀ x ∈ c.points, x.name.size ≤ maxLen) (hs : s.name.size ≤ maxLen) :
    Calls Try.prog 17 #[.agg #[.int .i64 f.m0, v1, v2], .agg #[v3, v4], .int .i64 k, s.val, .int .i64 m] w fun e w' => e = .returned (.int .i64 (draughtFor f c k s m)) ∧ Below w.heap.size w w' := by
  have HFR := hide h; have HCR := hide hch
  obtain ⟨m0, ps, ss⟩ := f
  obtain ⟨x0, x1, x2, x3, x4, x5⟩ := s
  obtain ⟨h1, h2⟩ := h
  obtain ⟨h3, h4⟩ := hch
  simp only at h1 h2 hs HFR ⊢
  obtain ⟨A1, c1, rfl, hc1, hm1, h1⟩ := h1
  obtain ⟨A2, c2, rfl, hc2, hm2, h2⟩ := h2
  obtain ⟨A3, c3, rfl, hc3, hm3, h3⟩ := h3
  obtain ⟨A4, c4, rfl, hc4, hm4, h4⟩ := h4
  unfold maxLen at hm1 hm2 hm3 hm4
  clear h1 h2 h3 h4
  have hnr := minutes_range c k ⟨x0, x1, x2, x3, x4, x5⟩
  obtain ⟨n, hn⟩ : ∃ n : Nat, minutesOn c k ⟨x0, x1, x2, x3, x4, x5⟩ = n := ⟨(minutesOn c k ⟨x0, x1, x2, x3, x4, x5⟩).toNat, by omega⟩
  rw [hn] at hnr
  have HN := hide hn
  have HV := hide (show draughtFor ⟨m0, ps, ss⟩ c k ⟨x0, x1, x2, x3, x4, x5⟩ m = if (foreOk ⟨m0, ps, ss⟩ && onSeg c k ⟨x0, x1, x2, x3, x4, x5⟩ && inB m 0 (2880 - (n : Int))) = true then lastD (floats ⟨m0, ps, ss⟩ c k ⟨x0, x1, x2, x3, x4, x5⟩ (leastL ⟨m0, ps, ss⟩ m (n + 1))) 1901 else 0 by unfold draughtFor canStart; rw [hn, Int.toNat_natCast])
  clear hn
  have hnw : IntKind.i64.wrap (2880 - (n : Int)) = 2880 - (n : Int) := IntWalk.i64_in _ (by omega)
  rcases ch3 (foreOk ⟨m0, ps, ss⟩) (onSeg c k ⟨x0, x1, x2, x3, x4, x5⟩) (inB m 0 (2880 - (n : Int))) with ⟨g1, g2, g3⟩ | g1 | ⟨g1, g2⟩ | ⟨g1, g2, g3⟩
  · have hv := HV.out
    rw [g1, g2, g3] at hv
    simp only [Bool.and_self, if_true] at hv
    replace HV := hide hv; clear hv
    have HOK := hide g1
    have hm : 0 ≤ m ∧ m ≤ 2880 - n := by simp [inB] at g3; omega
    obtain ⟨q0, q1⟩ := hm
    have hmin : inB m 0 2880 = true := by simp [inB]; omega
    have hmn : ¬ (2880 : Int) < m + n := by omega
    have HLL := hide (fun j : Nat => leastL_range (m := m) g1 j)
    have HLR := hide (fun x : Int => low_range (m := x) g1)
    have HLA := hide (show ∀ x : Int, 0 ≤ x → x ≤ 2880 → lowAt ⟨m0, ps, ss⟩ x = lowF ⟨m0, ps, ss⟩ x from fun x a b => by unfold lowAt; rw [if_pos]; rw [g1]; simp [inB]; omega)
    obtain ⟨l0, hl0⟩ : ∃ l, lowF ⟨m0, ps, ss⟩ m = l := ⟨_, rfl⟩
    have HLOW := hide (show lowF ⟨m0, ps, ss⟩ m = l0 from hl0)
    have hl00 := HLR.out m
    rw [hl0] at hl00
    have HL0 := hide hl0; clear hl0
    go_enter Try.func17, Try.ntmps17
    go_wp2_with (first
      | (go_at_call 54; with_reducible refine (impl_ForecastOk_any _ _ ⟨m0, ps, ss⟩ _ ((HFR.out.keep (B' := w.heap.size) (by repeat (first | exact Below.refl _ _ | assumption | refine Below.setCell ?_ (by first | omega | (simp <;> omega)) _ | refine Below.alloc ?_ (by first | omega | (simp <;> omega)) _ | refine below_drewN ?_ _ | refine Below.drew ?_ | refine Below.trans ?_ (Below.mono (by assumption) (by first | omega | (simp <;> omega))))) (Nat.le_refl _)).mono (by first | omega | (simp <;> omega)))).mono ?_; rintro e w1 ⟨rfl, hb'⟩; (first | have hb := bnext hb hb' | have hb := bnextA hb hb' | have hb := hb'); clear hb'; obtain ⟨hc, hf⟩ := bcell hb; have hz := hb.size; (try simp at hz))
      | (go_at_call 53; with_reducible refine (impl_onSegment_any _ _ c k ⟨x0, x1, x2, x3, x4, x5⟩ _ ((HCR.out.keep (B' := w.heap.size) (by repeat (first | exact Below.refl _ _ | assumption | refine Below.setCell ?_ (by first | omega | (simp <;> omega)) _ | refine Below.alloc ?_ (by first | omega | (simp <;> omega)) _ | refine below_drewN ?_ _ | refine Below.drew ?_ | refine Below.trans ?_ (Below.mono (by assumption) (by first | omega | (simp <;> omega))))) (Nat.le_refl _)).mono (by first | omega | (simp <;> omega))) hokp hs).mono ?_; rintro e w1 ⟨rfl, hb'⟩; (first | have hb := bnext hb hb' | have hb := bnextA hb hb' | have hb := hb'); clear hb'; obtain ⟨hc, hf⟩ := bcell hb; have hz := hb.size; (try simp at hz))
      | (go_at_call 12; with_reducible refine (impl_MinutesOn_any _ _ c k ⟨x0, x1, x2, x3, x4, x5⟩ _ ((HCR.out.keep (B' := w.heap.size) (by repeat (first | exact Below.refl _ _ | assumption | refine Below.setCell ?_ (by first | omega | (simp <;> omega)) _ | refine Below.alloc ?_ (by first | omega | (simp <;> omega)) _ | refine below_drewN ?_ _ | refine Below.drew ?_ | refine Below.trans ?_ (Below.mono (by assumption) (by first | omega | (simp <;> omega))))) (Nat.le_refl _)).mono (by first | omega | (simp <;> omega))) hokp hs).mono ?_; rintro e w1 ⟨rfl, hb'⟩; rw [HN.out]; (first | have hb := bnext hb hb' | have hb := bnextA hb hb' | have hb := hb'); clear hb'; obtain ⟨hc, hf⟩ := bcell hb; have hz := hb.size; (try simp at hz))
      | (go_at_call 55; with_reducible refine (isMinute_any _ _).mono ?_; rintro e w1 ⟨rfl, hw⟩; obtain rfl := hw.symm)
      | (go_at_call 56; with_reducible refine (flow_any _ _ ⟨m0, ps, ss⟩ _ _ ((HFR.out.keep (B' := w.heap.size) (by repeat (first | exact Below.refl _ _ | assumption | refine Below.setCell ?_ (by first | omega | (simp <;> omega)) _ | refine Below.alloc ?_ (by first | omega | (simp <;> omega)) _ | refine below_drewN ?_ _ | refine Below.drew ?_ | refine Below.trans ?_ (Below.mono (by assumption) (by first | omega | (simp <;> omega))))) (Nat.le_refl _)).mono (by first | omega | (simp <;> omega))) HOK.out (by omega) (by omega)).mono ?_; rintro e w1 ⟨rfl, hb'⟩; rw [HLOW.out]; (first | have hb := bnext hb hb' | have hb := bnextA hb hb' | have hb := hb'); clear hb'; obtain ⟨hc, hf⟩ := bcell hb; have hz := hb.size; (try simp at hz)))
    have ZF := hide (show BoxF w1 w.heap.size m0 (.slice A1 ps.length c1) (.slice A2 ss.length c2) from ⟨by rw [hc _ _ (by simp <;> omega)]; simp [go_sem], by rw [hc _ _ (by simp <;> omega)]; simp [go_sem], by rw [hc _ _ (by simp <;> omega)]; simp [go_sem]⟩)
    have ZC := hide (show BoxC w1 (w.heap.size + 1) (.slice A3 c.points.length c3) (.slice A4 c.segs.length c4) from ⟨by rw [hc _ _ (by simp)]; simp [go_sem], by rw [hc _ _ (by simp)]; simp [go_sem]⟩)
    have ZS := hide (show BoxS w1 (w.heap.size + 1 + 1) x0 x1 x2 x3 x4 x5 from ⟨by rw [hc _ _ (by simp)]; simp [go_sem], by rw [hc _ _ (by simp)]; simp [go_sem], by rw [hc _ _ (by simp)]; simp [go_sem], by rw [hc _ _ (by simp)]; simp [go_sem], by rw [hc _ _ (by simp)]; simp [go_sem], by rw [hc _ _ (by simp)]; simp [go_sem], by rw [hf _ _ (by simp)]; simp [go_sem]⟩)
    have hbw : Below w.heap.size w w1 := (by repeat (first | exact Below.refl _ _ | assumption | refine Below.setCell ?_ (by first | omega | (simp <;> omega)) _ | refine Below.alloc ?_ (by first | omega | (simp <;> omega)) _ | refine below_drewN ?_ _ | refine Below.drew ?_ | refine Below.trans ?_ (Below.mono (by assumption) (by first | omega | (simp <;> omega)))))
    have hs1 := hb.size
    simp only [World.size_alloc] at hs1
    clear hc hf hz hb HLOW
    obtain ⟨gC, hgC⟩ : ∃ g, w.heap.size + 1 = g := ⟨_, rfl⟩
    rw [hgC] at ZC ZS hs1 ⊢
    obtain ⟨gS, hgS⟩ : ∃ g, gC + 1 = g := ⟨_, rfl⟩
    rw [hgS] at ZS hs1 ⊢
    have k1 : w.heap.size < w1.heap.size := by omega
    have k2 : gC < w1.heap.size := by omega
    have k3 : gS < w1.heap.size := by omega
    have k4 : gS ≠ gC := by omega
    have k5 : w.heap.size ≤ gS := by omega
    clear hgC hgS hs1
    have hmnw : IntKind.i64.wrap (m + (n : Int)) = m + n := IntWalk.i64_in _ (by omega)
    go_loopw [12, 13] (fun av mv wr => ∃ (j : Nat) (a : Int), j ≤ n + 1 ∧ av = .int .i64 a ∧ mv = .int .i64 (m + j) ∧ Hid (leastL ⟨m0, ps, ss⟩ m j = a) ∧ -6000 ≤ a ∧ a ≤ 6000 ∧ Below w1.heap.size w1 wr) (fun _ mv _ => n + 1 - (intOf mv - m).toNat)
    case atStart => exact ⟨0, l0, by omega, rfl, by simp, hide HL0.out, hl00.1, hl00.2, Below.refl _ _⟩
    case round =>
      obtain ⟨j, a, hj, rfl, rfl, HA, ha0, ha1, hbk⟩ := hrel
      obtain ⟨wo, rfl⟩ : ∃ wo : World, wo = wr := ⟨_, rfl⟩
      have hbs := hbk.size
      have hb0 := bnext hbw hbk (Nat.le_refl _)
      obtain ⟨r0, r1, r2⟩ := ZF.out.keep hbk k1
      obtain ⟨s0, s1⟩ := ZC.out.keep hbk k2
      obtain ⟨t0, t1, t2, t3, t4, t5, t6⟩ := ZS.out.keep hbk k3
      have l1 : w.heap.size < wo.heap.size := by omega
      have l2 : gC < wo.heap.size := by omega
      have l3 : gS < wo.heap.size := by omega
      have hb := Below.refl wo.heap.size wo
      by_cases hjn : j ≤ n
      · have hcond : m + (j : Int) ≤ m + n := by omega
        have hll := HLR.out (m + j)
        obtain ⟨b, hbv⟩ : ∃ b, lowF ⟨m0, ps, ss⟩ (m + j) = b := ⟨_, rfl⟩
        rw [hbv] at hll
        have HSTEP := hide (show leastL ⟨m0, ps, ss⟩ m (j + 1) = min a b by rw [leastL, HA.out, hbv])
        have HLOW := hide (show lowF ⟨m0, ps, ss⟩ (m + j) = b by exact hbv)
        clear hbv
        have hj1 : m + ((j + 1 : Nat) : Int) = m + j + 1 := by omega
        have HJ1 := hide hj1; clear hj1
        have hjw : IntKind.i64.wrap (m + (j : Int) + 1) = m + j + 1 := IntWalk.i64_in _ (by omega)
        by_cases hab : a ≤ b
        · have HS2 := hide (show leastL ⟨m0, ps, ss⟩ m (j + 1) = a by rw [HSTEP.out]; omega)
          go_wp2_with (first
      | (go_at_call 12; with_reducible refine (impl_MinutesOn_any _ _ c k ⟨x0, x1, x2, x3, x4, x5⟩ _ ((HCR.out.keep (B' := w.heap.size) (bnext hb0 hb (Nat.le_refl _)) (Nat.le_refl _)).mono (by have := hb.size; omega)) hokp hs).mono ?_; rintro e w1 ⟨rfl, hb'⟩; rw [HN.out]; have hb := bnext hb hb' (Nat.le_refl _); clear hb'; obtain ⟨hc, hf⟩ := bcell hb)
      | (go_at_call 56; with_reducible refine (flow_any _ _ ⟨m0, ps, ss⟩ _ _ ((HFR.out.keep (B' := w.heap.size) (bnext hb0 hb (Nat.le_refl _)) (Nat.le_refl _)).mono (by have := hb.size; omega)) HOK.out (by omega) (by omega)).mono ?_; rintro e w1 ⟨rfl, hb'⟩; rw [HLOW.out]; have hb := bnext hb hb' (Nat.le_refl _); clear hb'; obtain ⟨hc, hf⟩ := bcell hb))
          all_goals try (exfalso; omega)
          go_roundw
          case rel => exact ⟨j + 1, a, by omega, rfl, by rw [HJ1.out], HS2, ha0, ha1, bnext hbk hb (Nat.le_refl _)⟩
          case measure => simp [intOf]; omega
        · have HS2 := hide (show leastL ⟨m0, ps, ss⟩ m (j + 1) = b by rw [HSTEP.out]; omega)
          go_wp2_with (first
      | (go_at_call 12; with_reducible refine (impl_MinutesOn_any _ _ c k ⟨x0, x1, x2, x3, x4, x5⟩ _ ((HCR.out.keep (B' := w.heap.size) (bnext hb0 hb (Nat.le_refl _)) (Nat.le_refl _)).mono (by have := hb.size; omega)) hokp hs).mono ?_; rintro e w1 ⟨rfl, hb'⟩; rw [HN.out]; have hb := bnext hb hb' (Nat.le_refl _); clear hb'; obtain ⟨hc, hf⟩ := bcell hb)
      | (go_at_call 56; with_reducible refine (flow_any _ _ ⟨m0, ps, ss⟩ _ _ ((HFR.out.keep (B' := w.heap.size) (bnext hb0 hb (Nat.le_refl _)) (Nat.le_refl _)).mono (by have := hb.size; omega)) HOK.out (by omega) (by omega)).mono ?_; rintro e w1 ⟨rfl, hb'⟩; rw [HLOW.out]; have hb := bnext hb hb' (Nat.le_refl _); clear hb'; obtain ⟨hc, hf⟩ := bcell hb))
          all_goals try (exfalso; omega)
          go_roundw
          case rel => exact ⟨j + 1, b, by omega, rfl, by rw [HJ1.out], HS2, hll.1, hll.2, bnext hbk hb (Nat.le_refl _)⟩
          case measure => simp [intOf]; omega
      · obtain rfl : j = n + 1 := by omega
        have hcond : ¬ (m + ((n + 1 : Nat) : Int)) ≤ m + n := by omega
        have HV2 := hide (show draughtFor ⟨m0, ps, ss⟩ c k ⟨x0, x1, x2, x3, x4, x5⟩ m = lastD (floats ⟨m0, ps, ss⟩ c k ⟨x0, x1, x2, x3, x4, x5⟩ a) 1901 by rw [HV.out, HA.out])
        clear hj hjn
        go_wp2_with fail
        have hbL0 : Below w.heap.size w (wo.setCell ⟨gS, 2, none⟩ (.int .i64 2000)) := hb0.setCell (p := ⟨gS, 2, none⟩) k5 _
        have hzL : (wo.setCell ⟨gS, 2, none⟩ (.int .i64 2000)).heap.size = wo.heap.size := by simp [World.setCell]
        have hSL := BoxS.set (ZS.out.keep hbk k3) 2000
        have hCL := (ZC.out.keep hbk k2).far (i := 2) (v := .int .i64 2000) k4
        go_loopw [] (fun wr => ∃ (j : Nat) (d : Int), j ≤ 1901 ∧ Hid (d = 99 + j) ∧ 99 ≤ d ∧ d ≤ 2000 ∧ Hid (lastD (floats ⟨m0, ps, ss⟩ c k ⟨x0, x1, x2, x3, x4, x5⟩ a) 1901 = lastD (floats ⟨m0, ps, ss⟩ c k ⟨x0, x1, x2, x3, x4, x5⟩ a) j) ∧ Hid (BoxC wr gC (.slice A3 c.points.length c3) (.slice A4 c.segs.length c4)) ∧ Hid (BoxS wr gS x0 x1 d x3 x4 x5) ∧ gC < wr.heap.size ∧ gS < wr.heap.size ∧ Below w.heap.size w wr) (fun wr => (cellInt wr ⟨gS, 2, none⟩).toNat)
        case atStart => exact ⟨1901, 2000, Nat.le_refl _, hide (by decide), by decide, by decide, hide rfl, hide hCL, hide hSL, by omega, by omega, hbL0⟩
        case round =>
          clear hbL0 hzL hSL hCL
          rename_i wr2
          obtain ⟨j, d, hj, HD, hd0, hd1, HLD, HBC, HBS, hgc, hgs, hbk2⟩ := hrel
          obtain ⟨wi, rfl⟩ : ∃ wi : World, wi = wr := ⟨_, rfl⟩
          have hbis := hbk2.size
          obtain ⟨t0, t1, t2, t3, t4, t5, t6⟩ := HBS.out
          obtain ⟨s0, s1⟩ := HBC.out
          have hce := cellInt_of t2
          by_cases hge : 100 ≤ d
          · obtain ⟨i, hi⟩ : ∃ i, j = i + 1 := ⟨j - 1, by have := HD.out; omega⟩
            have HI := hide (show d = 100 + (i : Int) by have := HD.out; omega)
            have HSTEP := hide (show lastD (floats ⟨m0, ps, ss⟩ c k ⟨x0, x1, x2, x3, x4, x5⟩ a) j = if floats ⟨m0, ps, ss⟩ c k ⟨x0, x1, x2, x3, x4, x5⟩ a d = true then d else lastD (floats ⟨m0, ps, ss⟩ c k ⟨x0, x1, x2, x3, x4, x5⟩ a) i by rw [hi, lastD_succ, HI.out])
            obtain ⟨e, he⟩ : ∃ e, d - 1 = e := ⟨_, rfl⟩
            have hew : IntKind.i64.wrap e = e := IntWalk.i64_in _ (by omega)
            have hde : IntKind.i64.wrap (d - 1) = e := by rw [he]; exact hew
            have HE := hide (show e = 99 + (i : Int) by have := HI.out; omega)
            have hi1 : i ≤ 1901 := by omega
            have hmeas : e.toNat < d.toNat := by omega
            have hlr := level_range2 c k ⟨x0, x1, d, x3, x4, x5⟩
            obtain ⟨lv, hlv⟩ : ∃ lv, levelFor c k ⟨x0, x1, d, x3, x4, x5⟩ = lv := ⟨_, rfl⟩
            rw [hlv] at hlr
            have HFL := hide (show floats ⟨m0, ps, ss⟩ c k ⟨x0, x1, x2, x3, x4, x5⟩ a d = decide (lv ≤ a) by unfold floats withDraught; rw [hlv])
            have HLV := hide hlv
            clear hlv hi
            by_cases hfl : lv ≤ a
            · have HF := hide (show draughtFor ⟨m0, ps, ss⟩ c k ⟨x0, x1, x2, x3, x4, x5⟩ m = d by rw [HV2.out, HLD.out, HSTEP.out, HFL.out, if_pos (by simpa using hfl)])
              go_wp2_with fail
              with_reducible refine (impl_LevelFor_any _ _ c k ⟨x0, x1, d, x3, x4, x5⟩ _ ((HCR.out.keep (B' := w.heap.size) hbk2 (Nat.le_refl _)).mono (by omega)) hokp hs).mono ?_
              rintro e5 w5 ⟨rfl, hb5⟩
              rw [HLV.out]
              obtain ⟨u0, u1, u2, u3, u4, u5, u6⟩ := HBS.out.keep hb5 hgs
              go_wp2
              go_ret
              exact ⟨ret_int (by rw [HF.out]), bnext hbk2 hb5 (by omega)⟩
            · have HLD2 := hide (show lastD (floats ⟨m0, ps, ss⟩ c k ⟨x0, x1, x2, x3, x4, x5⟩ a) 1901 = lastD (floats ⟨m0, ps, ss⟩ c k ⟨x0, x1, x2, x3, x4, x5⟩ a) i by rw [HLD.out, HSTEP.out, HFL.out, if_neg (by simpa using hfl)])
              go_wp2_with fail
              with_reducible refine (impl_LevelFor_any _ _ c k ⟨x0, x1, d, x3, x4, x5⟩ _ ((HCR.out.keep (B' := w.heap.size) hbk2 (Nat.le_refl _)).mono (by omega)) hokp hs).mono ?_
              rintro e5 w5 ⟨rfl, hb5⟩
              rw [HLV.out]
              obtain ⟨u0, u1, u2, u3, u4, u5, u6⟩ := HBS.out.keep hb5 hgs
              go_wp2
              have hs5 := hb5.size
              have HC6 := hide ((HBC.out.keep hb5 hgc).far (i := 2) (v := .int .i64 e) k4)
              have HS6 := hide ((HBS.out.keep hb5 hgs).set e)
              have hb6 : Below w.heap.size w (w5.setCell ⟨gS, 2, none⟩ (.int .i64 e)) := (bnext hbk2 hb5 (by omega)).setCell (p := ⟨gS, 2, none⟩) k5 _
              have hz6 : (w5.setCell ⟨gS, 2, none⟩ (.int .i64 e)).heap.size = w5.heap.size := by simp [World.setCell]
              have hce6 := cellInt_of HS6.out.2.2.1
              go_roundw
              case rel => exact ⟨i, e, hi1, HE, by omega, by omega, HLD2, HC6, HS6, by omega, by omega, hb6⟩
              case measure => rw [hce6, hce]; exact hmeas
          · obtain rfl : j = 0 := by have := HD.out; omega
            have HF := hide (show draughtFor ⟨m0, ps, ss⟩ c k ⟨x0, x1, x2, x3, x4, x5⟩ m = 0 by rw [HV2.out, HLD.out]; rfl)
            go_wp2
            go_ret
            exact ⟨ret_int (by rw [HF.out]), hbk2⟩
  all_goals
    have HF := hide (show draughtFor ⟨m0, ps, ss⟩ c k ⟨x0, x1, x2, x3, x4, x5⟩ m = 0 by rw [HV.out]; first | (rw [g1, g2, g3]; rfl) | (rw [g1, g2]; rfl) | (rw [g1]; rfl))
    rcases ch1 (inB m 0 2880) with gm | gm
    all_goals
      try (have hq : 0 ≤ m ∧ m ≤ 2880 := by (simp [inB] at gm; exact gm))
      try (have hgt : (2880 : Int) < m + n := by (simp [inB] at g3; omega))
      go_enter Try.func17, Try.ntmps17
      go_wp2_with (first
      | (go_at_call 54; with_reducible refine (impl_ForecastOk_any _ _ ⟨m0, ps, ss⟩ _ ((HFR.out.keep (B' := w.heap.size) (by repeat (first | exact Below.refl _ _ | assumption | refine Below.setCell ?_ (by first | omega | (simp <;> omega)) _ | refine Below.alloc ?_ (by first | omega | (simp <;> omega)) _ | refine below_drewN ?_ _ | refine Below.drew ?_ | refine Below.trans ?_ (Below.mono (by assumption) (by first | omega | (simp <;> omega))))) (Nat.le_refl _)).mono (by first | omega | (simp <;> omega)))).mono ?_; rintro e w1 ⟨rfl, hb'⟩; (first | have hb := bnext hb hb' | have hb := bnextA hb hb' | have hb := hb'); clear hb'; obtain ⟨hc, hf⟩ := bcell hb; have hz := hb.size; (try simp at hz))
      | (go_at_call 53; with_reducible refine (impl_onSegment_any _ _ c k ⟨x0, x1, x2, x3, x4, x5⟩ _ ((HCR.out.keep (B' := w.heap.size) (by repeat (first | exact Below.refl _ _ | assumption | refine Below.setCell ?_ (by first | omega | (simp <;> omega)) _ | refine Below.alloc ?_ (by first | omega | (simp <;> omega)) _ | refine below_drewN ?_ _ | refine Below.drew ?_ | refine Below.trans ?_ (Below.mono (by assumption) (by first | omega | (simp <;> omega))))) (Nat.le_refl _)).mono (by first | omega | (simp <;> omega))) hokp hs).mono ?_; rintro e w1 ⟨rfl, hb'⟩; (first | have hb := bnext hb hb' | have hb := bnextA hb hb' | have hb := hb'); clear hb'; obtain ⟨hc, hf⟩ := bcell hb; have hz := hb.size; (try simp at hz))
      | (go_at_call 12; with_reducible refine (impl_MinutesOn_any _ _ c k ⟨x0, x1, x2, x3, x4, x5⟩ _ ((HCR.out.keep (B' := w.heap.size) (by repeat (first | exact Below.refl _ _ | assumption | refine Below.setCell ?_ (by first | omega | (simp <;> omega)) _ | refine Below.alloc ?_ (by first | omega | (simp <;> omega)) _ | refine below_drewN ?_ _ | refine Below.drew ?_ | refine Below.trans ?_ (Below.mono (by assumption) (by first | omega | (simp <;> omega))))) (Nat.le_refl _)).mono (by first | omega | (simp <;> omega))) hokp hs).mono ?_; rintro e w1 ⟨rfl, hb'⟩; rw [HN.out]; (first | have hb := bnext hb hb' | have hb := bnextA hb hb' | have hb := hb'); clear hb'; obtain ⟨hc, hf⟩ := bcell hb; have hz := hb.size; (try simp at hz))
      | (go_at_call 55; with_reducible refine (isMinute_any _ _).mono ?_; rintro e w1 ⟨rfl, hw⟩; obtain rfl := hw.symm)
      | (go_at_call 56; with_reducible refine (flow_any _ _ ⟨m0, ps, ss⟩ _ _ ((HFR.out.keep (B' := w.heap.size) (by repeat (first | exact Below.refl _ _ | assumption | refine Below.setCell ?_ (by first | omega | (simp <;> omega)) _ | refine Below.alloc ?_ (by first | omega | (simp <;> omega)) _ | refine below_drewN ?_ _ | refine Below.drew ?_ | refine Below.trans ?_ (Below.mono (by assumption) (by first | omega | (simp <;> omega))))) (Nat.le_refl _)).mono (by first | omega | (simp <;> omega))) HOK.out (by omega) (by omega)).mono ?_; rintro e w1 ⟨rfl, hb'⟩; rw [HLOW.out]; (first | have hb := bnext hb hb' | have hb := bnextA hb hb' | have hb := hb'); clear hb'; obtain ⟨hc, hf⟩ := bcell hb; have hz := hb.size; (try simp at hz)))
      all_goals go_ret
      all_goals exact ⟨ret_int (by rw [HF.out]), (by repeat (first | exact Below.refl _ _ | assumption | refine Below.setCell ?_ (by first | omega | (simp <;> omega)) _ | refine Below.alloc ?_ (by first | omega | (simp <;> omega)) _ | refine below_drewN ?_ _ | refine Below.drew ?_ | refine Below.trans ?_ (Below.mono (by assumption) (by first | omega | (simp <;> omega)))))⟩
end Go.Proofs.Ytpbcbdjjpkenjaa

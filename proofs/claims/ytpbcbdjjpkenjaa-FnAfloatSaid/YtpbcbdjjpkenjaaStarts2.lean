/- The minutes at which a ship can start: the windows of both texts. No condition. -/
import Derived.Test.YtpbcbdjjpkenjaaStarts
namespace Go.Proofs.Ytpbcbdjjpkenjaa
open Go.RowKit
set_option linter.unusedVariables false
theorem accL_low (f : ForeD) (lv : Int) : accL false f lv = fun m : Nat => decide (lv ≤ lowF f m) := by funext m; unfold accL levF; simp
theorem accL_high (f : ForeD) (lv : Int) : accL true f lv = fun m : Nat => decide (lv ≤ highF f m) := by funext m; unfold accL levF; simp
set_option maxRecDepth 100000 in
set_option maxHeartbeats 16000000 in
theorem spec_l07Starts_any (v1 v2 v3 v4 : Value) (f : ForeD) (c : ChartD) (k : Int) (s : ShipD) (hi : Bool) (w : World) (h : RdFore w w.heap.size v1 v2 f) (hch : RdChart w w.heap.size v3 v4 c) (hokp : ∀ x ∈ c.points, x.name.size ≤ maxLen) (hs : s.name.size ≤ maxLen) :
    Calls Try.prog 82 #[.agg #[.int .i64 f.m0, v1, v2], .agg #[v3, v4], .int .i64 k, s.val, .bool hi] w fun e w' => ∃ v, e = .returned v ∧ Own w' w.heap.size 94 2 WindowD.enc v (startsOf hi f c k s) ∧ Below w.heap.size w w' := by
  have HFR := hide h; have HCR := hide hch
  obtain ⟨m0, ps, ss⟩ := f
  obtain ⟨x0, x1, x2, x3, x4, x5⟩ := s
  obtain ⟨h1, h2⟩ := h
  obtain ⟨h3, h4⟩ := hch
  simp only at h1 h2 hs HFR ⊢
  obtain ⟨A1, c1, rfl, hc1, hm1, h1⟩ := h1
  obtain ⟨A2, c2, rfl, hc2, hm2, h2⟩ := h2
  obtain ⟨A3, c3, rfl, hc3, hm3, h3⟩ := h3
  obtain ⟨A4, c4, rfl, hc4, hm4, h4⟩ := h4
  unfold maxLen at hm1 hm2 hm3 hm4
  clear h1 h2 h3 h4
  have hnr := minutes_range c k ⟨x0, x1, x2, x3, x4, x5⟩
  obtain ⟨n, hn⟩ : ∃ n : Int, minutesOn c k ⟨x0, x1, x2, x3, x4, x5⟩ = n := ⟨_, rfl⟩
  obtain ⟨lv, hlv⟩ : ∃ lv : Int, levelFor c k ⟨x0, x1, x2, x3, x4, x5⟩ = lv := ⟨_, rfl⟩
  have HV := hide (show startsOf hi ⟨m0, ps, ss⟩ c k ⟨x0, x1, x2, x3, x4, x5⟩ = if (foreOk ⟨m0, ps, ss⟩ && onSeg c k ⟨x0, x1, x2, x3, x4, x5⟩) = true then shrinkL n (winsTo (accL hi ⟨m0, ps, ss⟩ lv) 2881) else [] by unfold startsOf; rw [hn, hlv])
  rw [hn] at hnr
  have HN := hide hn
  have HLV := hide hlv
  clear hn hlv
  rcases ch2 (foreOk ⟨m0, ps, ss⟩) (onSeg c k ⟨x0, x1, x2, x3, x4, x5⟩) with ⟨g1, g2⟩ | g1 | ⟨g1, g2⟩
  · have hv := HV.out
    rw [g1, g2] at hv
    simp only [Bool.and_self, if_true] at hv
    replace HV := hide hv; clear hv
    have HOK := hide g1
    obtain ⟨n0, n1⟩ := hnr
    go_enter Try.func82, Try.ntmps82
    go_wp2_with (first
      | (go_at_call 66; with_reducible refine (spec_ForecastOk_any _ _ ⟨m0, ps, ss⟩ _ ((HFR.out.keep (B' := w.heap.size) (by repeat (first | exact Below.refl _ _ | assumption | refine Below.setCell ?_ (by first | omega | (simp <;> omega)) _ | refine Below.alloc ?_ (by first | omega | (simp <;> omega)) _ | refine below_drewN ?_ _ | refine Below.drew ?_ | refine Below.trans ?_ (Below.mono (by assumption) (by first | omega | (simp <;> omega))))) (Nat.le_refl _)).mono (by first | omega | (simp <;> omega)))).mono ?_; rintro e w1 ⟨rfl, hb'⟩; (first | have hb := bnext hb hb' | have hb := bnextA hb hb' | have hb := hb'); clear hb'; obtain ⟨hc, hf⟩ := bcell hb; have hz := hb.size; (try simp at hz))
      | (go_at_call 67; with_reducible refine (spec_l07Ok_any _ _ c k ⟨x0, x1, x2, x3, x4, x5⟩ _ ((HCR.out.keep (B' := w.heap.size) (by repeat (first | exact Below.refl _ _ | assumption | refine Below.setCell ?_ (by first | omega | (simp <;> omega)) _ | refine Below.alloc ?_ (by first | omega | (simp <;> omega)) _ | refine below_drewN ?_ _ | refine Below.drew ?_ | refine Below.trans ?_ (Below.mono (by assumption) (by first | omega | (simp <;> omega))))) (Nat.le_refl _)).mono (by first | omega | (simp <;> omega))) hokp hs).mono ?_; rintro e w1 ⟨rfl, hb'⟩; (first | have hb := bnext hb hb' | have hb := bnextA hb hb' | have hb := hb'); clear hb'; obtain ⟨hc, hf⟩ := bcell hb; have hz := hb.size; (try simp at hz)))
    have z0 : w1.cell? ⟨w.heap.size, 0, none⟩ = some (.int .i64 m0) := by rw [hc _ _ (by simp <;> omega)]; simp [go_sem]
    have z1 : w1.cell? ⟨w.heap.size, 1, none⟩ = some (.slice A1 ps.length c1) := by rw [hc _ _ (by simp <;> omega)]; simp [go_sem]
    have z2 : w1.cell? ⟨w.heap.size, 2, none⟩ = some (.slice A2 ss.length c2) := by rw [hc _ _ (by simp <;> omega)]; simp [go_sem]
    have z3 : w1.cell? ⟨w.heap.size + 1, 0, none⟩ = some (.slice A3 c.points.length c3) := by rw [hc _ _ (by simp)]; simp [go_sem]
    have z4 : w1.cell? ⟨w.heap.size + 1, 1, none⟩ = some (.slice A4 c.segs.length c4) := by rw [hc _ _ (by simp)]; simp [go_sem]
    have z5 : w1.cell? ⟨w.heap.size + 1 + 1, 0, none⟩ = some (.string x0) := by rw [hc _ _ (by simp)]; simp [go_sem]
    have z6 : w1.cell? ⟨w.heap.size + 1 + 1, 1, none⟩ = some (.int .i64 x1) := by rw [hc _ _ (by simp)]; simp [go_sem]
    have z7 : w1.cell? ⟨w.heap.size + 1 + 1, 2, none⟩ = some (.int .i64 x2) := by rw [hc _ _ (by simp)]; simp [go_sem]
    have z8 : w1.cell? ⟨w.heap.size + 1 + 1, 3, none⟩ = some (.int .i64 x3) := by rw [hc _ _ (by simp)]; simp [go_sem]
    have z9 : w1.cell? ⟨w.heap.size + 1 + 1, 4, none⟩ = some (.int .i64 x4) := by rw [hc _ _ (by simp)]; simp [go_sem]
    have z10 : w1.cell? ⟨w.heap.size + 1 + 1, 5, none⟩ = some (.bool x5) := by rw [hc _ _ (by simp)]; simp [go_sem]
    have hbw : Below w.heap.size w w1 := (by repeat (first | exact Below.refl _ _ | assumption | refine Below.setCell ?_ (by first | omega | (simp <;> omega)) _ | refine Below.alloc ?_ (by first | omega | (simp <;> omega)) _ | refine below_drewN ?_ _ | refine Below.drew ?_ | refine Below.trans ?_ (Below.mono (by assumption) (by first | omega | (simp <;> omega)))))
    have hs1 := hb.size
    simp only [World.size_alloc] at hs1
    clear hc hf hz hb
    obtain ⟨gC, hgC⟩ : ∃ g, w.heap.size + 1 = g := ⟨_, rfl⟩
    rw [hgC] at z3 z4 z5 z6 z7 z8 z9 z10 hs1 ⊢
    obtain ⟨gS, hgS⟩ : ∃ g, gC + 1 = g := ⟨_, rfl⟩
    rw [hgS] at z5 z6 z7 z8 z9 z10 hs1 ⊢
    have k1 : w.heap.size < w1.heap.size := by omega
    have k2 : gC < w1.heap.size := by omega
    have k3 : gS < w1.heap.size := by omega
    have hw1 : w.heap.size ≤ w1.heap.size := by omega
    have keepS : ∀ w', Below w1.heap.size w1 w' → w'.cell? ⟨w.heap.size, 0, none⟩ = some (.int .i64 m0) ∧ w'.cell? ⟨w.heap.size, 1, none⟩ = some (.slice A1 ps.length c1) ∧ w'.cell? ⟨w.heap.size, 2, none⟩ = some (.slice A2 ss.length c2) ∧ w'.cell? ⟨gC, 0, none⟩ = some (.slice A3 c.points.length c3) ∧ w'.cell? ⟨gC, 1, none⟩ = some (.slice A4 c.segs.length c4) ∧ w'.cell? ⟨gS, 0, none⟩ = some (.string x0) ∧ w'.cell? ⟨gS, 1, none⟩ = some (.int .i64 x1) ∧ w'.cell? ⟨gS, 2, none⟩ = some (.int .i64 x2) ∧ w'.cell? ⟨gS, 3, none⟩ = some (.int .i64 x3) ∧ w'.cell? ⟨gS, 4, none⟩ = some (.int .i64 x4) ∧ w'.cell? ⟨gS, 5, none⟩ = some (.bool x5) ∧ Below w1.heap.size w1 w' := fun w' hB => ⟨cellKeep hB z0 k1, cellKeep hB z1 k1, cellKeep hB z2 k1, cellKeep hB z3 k2, cellKeep hB z4 k2, cellKeep hB z5 k3, cellKeep hB z6 k3, cellKeep hB z7 k3, cellKeep hB z8 k3, cellKeep hB z9 k3, cellKeep hB z10 k3, hB⟩
    clear hgC hgS hs1
    go_region_held3 (fun w' => w'.cell? ⟨w.heap.size, 0, none⟩ = some (.int .i64 m0) ∧ w'.cell? ⟨w.heap.size, 1, none⟩ = some (.slice A1 ps.length c1) ∧ w'.cell? ⟨w.heap.size, 2, none⟩ = some (.slice A2 ss.length c2) ∧ w'.cell? ⟨gC, 0, none⟩ = some (.slice A3 c.points.length c3) ∧ w'.cell? ⟨gC, 1, none⟩ = some (.slice A4 c.segs.length c4) ∧ w'.cell? ⟨gS, 0, none⟩ = some (.string x0) ∧ w'.cell? ⟨gS, 1, none⟩ = some (.int .i64 x1) ∧ w'.cell? ⟨gS, 2, none⟩ = some (.int .i64 x2) ∧ w'.cell? ⟨gS, 3, none⟩ = some (.int .i64 x3) ∧ w'.cell? ⟨gS, 4, none⟩ = some (.int .i64 x4) ∧ w'.cell? ⟨gS, 5, none⟩ = some (.bool x5) ∧ Below w1.heap.size w1 w')
      (first
        | exact keepS _ (Below.drew (Below.refl _ _))
        | exact keepS _ hB8
        | exact keepS _ hB7
        | exact keepS _ hB6
        | exact keepS _ hB5)
      (first
        | (go_at_call 71; obtain ⟨_, _, _, _, _, _, _, _, _, _, _, qB⟩ := (by with_reducible assumption : _ ∧ _); with_reducible refine (calls_int (spec_LevelFor_any _ _ c k ⟨x0, x1, x2, x3, x4, x5⟩ _ ((HCR.out.keep (B' := w.heap.size) (hbw.trans (qB.mono (by omega))) (Nat.le_refl _)).mono (by have := qB.size; omega)) hokp hs) HLV.out).mono ?_; rintro e w5 ⟨rfl, hb5⟩; have hB5 := bnext qB hb5 (Nat.le_refl _))
        | (go_at_call 123; obtain ⟨_, _, _, _, _, _, _, _, _, _, _, qB⟩ := (by with_reducible assumption : _ ∧ _); with_reducible refine (l04Levels_any _ _ ⟨m0, ps, ss⟩ lv hi _ ((HFR.out.keep (B' := w.heap.size) (hbw.trans (qB.mono (by omega))) (Nat.le_refl _)).mono (by have := qB.size; omega)) HOK.out).mono ?_; rintro e w6 ⟨v6, rfl, ho6, hb6⟩; have hB6 := bnext qB hb6 (Nat.le_refl _); have HO6 := hide ho6; clear ho6)
        | (go_at_call 69; obtain ⟨_, _, _, _, _, _, _, _, _, _, _, qB⟩ := (by with_reducible assumption : _ ∧ _); with_reducible refine (calls_int (spec_MinutesOn_any _ _ c k ⟨x0, x1, x2, x3, x4, x5⟩ _ ((HCR.out.keep (B' := w.heap.size) (hbw.trans (qB.mono (by omega))) (Nat.le_refl _)).mono (by have := qB.size; omega)) hokp hs) HN.out).mono ?_; rintro e w7 ⟨rfl, hb7⟩; have hB7 := bnext qB hb7 (Nat.le_refl _); have HO7 := hide (HO6.out.below hb7))
        | (go_at_call 122; obtain ⟨_, _, _, _, _, _, _, _, _, _, _, qB⟩ := (by with_reducible assumption : _ ∧ _); with_reducible refine (spec_ShrinkWindows_any _ _ n _ (Own.rd WindowD.enc_len HO7.out) (wins_ok _) (winsTo_len _ _) n0 n1).mono ?_; rintro e w8 ⟨v8, rfl, ho8, hb8⟩; have hB8 := bnext qB hb8 (Nat.le_refl _); have HO8 := hide ho8; clear ho8))
    go_wp2
    go_ret
    exact ⟨_, rfl, by rw [HV.out]; exact HO8.out.mono (by have := hb8.size; have := hB7.size; omega), hbw.trans (hB8.mono hw1)⟩
  all_goals
    have hv := HV.out
    (try rw [g1] at hv)
    (try rw [g2] at hv)
    simp only [Bool.and_false, Bool.false_and, Bool.false_eq_true, if_false] at hv
    replace HV := hide hv; clear hv
    go_enter Try.func82, Try.ntmps82
    go_wp2_with (first
      | (go_at_call 66; with_reducible refine (spec_ForecastOk_any _ _ ⟨m0, ps, ss⟩ _ ((HFR.out.keep (B' := w.heap.size) (by repeat (first | exact Below.refl _ _ | assumption | refine Below.setCell ?_ (by first | omega | (simp <;> omega)) _ | refine Below.alloc ?_ (by first | omega | (simp <;> omega)) _ | refine below_drewN ?_ _ | refine Below.drew ?_ | refine Below.trans ?_ (Below.mono (by assumption) (by first | omega | (simp <;> omega))))) (Nat.le_refl _)).mono (by first | omega | (simp <;> omega)))).mono ?_; rintro e w1 ⟨rfl, hb'⟩; (first | have hb := bnext hb hb' | have hb := bnextA hb hb' | have hb := hb'); clear hb'; obtain ⟨hc, hf⟩ := bcell hb; have hz := hb.size; (try simp at hz))
      | (go_at_call 67; with_reducible refine (spec_l07Ok_any _ _ c k ⟨x0, x1, x2, x3, x4, x5⟩ _ ((HCR.out.keep (B' := w.heap.size) (by repeat (first | exact Below.refl _ _ | assumption | refine Below.setCell ?_ (by first | omega | (simp <;> omega)) _ | refine Below.alloc ?_ (by first | omega | (simp <;> omega)) _ | refine below_drewN ?_ _ | refine Below.drew ?_ | refine Below.trans ?_ (Below.mono (by assumption) (by first | omega | (simp <;> omega))))) (Nat.le_refl _)).mono (by first | omega | (simp <;> omega))) hokp hs).mono ?_; rintro e w1 ⟨rfl, hb'⟩; (first | have hb := bnext hb hb' | have hb := bnextA hb hb' | have hb := hb'); clear hb'; obtain ⟨hc, hf⟩ := bcell hb; have hz := hb.size; (try simp at hz)))
    go_ret
    exact ⟨_, rfl, by rw [HV.out]; exact Own.nil_, (by repeat (first | exact Below.refl _ _ | assumption | refine Below.setCell ?_ (by first | omega | (simp <;> omega)) _ | refine Below.alloc ?_ (by first | omega | (simp <;> omega)) _ | refine below_drewN ?_ _ | refine Below.drew ?_ | refine Below.trans ?_ (Below.mono (by assumption) (by first | omega | (simp <;> omega)))))⟩
set_option maxRecDepth 100000 in
set_option maxHeartbeats 16000000 in
theorem impl_SureStarts_any (v1 v2 v3 v4 : Value) (f : ForeD) (c : ChartD) (k : Int) (s : ShipD) (w : World) (h : RdFore w w.heap.size v1 v2 f) (hch : RdChart w w.heap.size v3 v4 c) (hokp : ∀ x ∈ c.points, x.name.size ≤ maxLen) (hs : s.name.size ≤ maxLen) :
    Calls Try.prog 21 #[.agg #[.int .i64 f.m0, v1, v2], .agg #[v3, v4], .int .i64 k, s.val] w fun e w' => ∃ v, e = .returned v ∧ Own w' w.heap.size 94 2 WindowD.enc v (startsOf false f c k s) ∧ Below w.heap.size w w' := by
  have HFR := hide h; have HCR := hide hch
  obtain ⟨m0, ps, ss⟩ := f
  obtain ⟨x0, x1, x2, x3, x4, x5⟩ := s
  obtain ⟨h1, h2⟩ := h
  obtain ⟨h3, h4⟩ := hch
  simp only at h1 h2 hs HFR ⊢
  obtain ⟨A1, c1, rfl, hc1, hm1, h1⟩ := h1
  obtain ⟨A2, c2, rfl, hc2, hm2, h2⟩ := h2
  obtain ⟨A3, c3, rfl, hc3, hm3, h3⟩ := h3
  obtain ⟨A4, c4, rfl, hc4, hm4, h4⟩ := h4
  unfold maxLen at hm1 hm2 hm3 hm4
  clear h1 h2 h3 h4
  have hnr := minutes_range c k ⟨x0, x1, x2, x3, x4, x5⟩
  obtain ⟨n, hn⟩ : ∃ n : Int, minutesOn c k ⟨x0, x1, x2, x3, x4, x5⟩ = n := ⟨_, rfl⟩
  obtain ⟨lv, hlv⟩ : ∃ lv : Int, levelFor c k ⟨x0, x1, x2, x3, x4, x5⟩ = lv := ⟨_, rfl⟩
  have HV := hide (show startsOf false ⟨m0, ps, ss⟩ c k ⟨x0, x1, x2, x3, x4, x5⟩ = if (foreOk ⟨m0, ps, ss⟩ && onSeg c k ⟨x0, x1, x2, x3, x4, x5⟩) = true then shrinkL n (winsTo (accL false ⟨m0, ps, ss⟩ lv) 2881) else [] by unfold startsOf; rw [hn, hlv])
  rw [hn] at hnr
  have HN := hide hn
  have HLV := hide hlv
  clear hn hlv
  rcases ch2 (foreOk ⟨m0, ps, ss⟩) (onSeg c k ⟨x0, x1, x2, x3, x4, x5⟩) with ⟨g1, g2⟩ | g1 | ⟨g1, g2⟩
  · have hv := HV.out
    rw [g1, g2] at hv
    simp only [Bool.and_self, if_true] at hv
    replace HV := hide hv; clear hv
    have HOK := hide g1
    obtain ⟨n0, n1⟩ := hnr
    go_enter Try.func21, Try.ntmps21
    go_wp2_with (first
      | (go_at_call 54; with_reducible refine (impl_ForecastOk_any _ _ ⟨m0, ps, ss⟩ _ ((HFR.out.keep (B' := w.heap.size) (by repeat (first | exact Below.refl _ _ | assumption | refine Below.setCell ?_ (by first | omega | (simp <;> omega)) _ | refine Below.alloc ?_ (by first | omega | (simp <;> omega)) _ | refine below_drewN ?_ _ | refine Below.drew ?_ | refine Below.trans ?_ (Below.mono (by assumption) (by first | omega | (simp <;> omega))))) (Nat.le_refl _)).mono (by first | omega | (simp <;> omega)))).mono ?_; rintro e w1 ⟨rfl, hb'⟩; (first | have hb := bnext hb hb' | have hb := bnextA hb hb' | have hb := hb'); clear hb'; obtain ⟨hc, hf⟩ := bcell hb; have hz := hb.size; (try simp at hz))
      | (go_at_call 53; with_reducible refine (impl_onSegment_any _ _ c k ⟨x0, x1, x2, x3, x4, x5⟩ _ ((HCR.out.keep (B' := w.heap.size) (by repeat (first | exact Below.refl _ _ | assumption | refine Below.setCell ?_ (by first | omega | (simp <;> omega)) _ | refine Below.alloc ?_ (by first | omega | (simp <;> omega)) _ | refine below_drewN ?_ _ | refine Below.drew ?_ | refine Below.trans ?_ (Below.mono (by assumption) (by first | omega | (simp <;> omega))))) (Nat.le_refl _)).mono (by first | omega | (simp <;> omega))) hokp hs).mono ?_; rintro e w1 ⟨rfl, hb'⟩; (first | have hb := bnext hb hb' | have hb := bnextA hb hb' | have hb := hb'); clear hb'; obtain ⟨hc, hf⟩ := bcell hb; have hz := hb.size; (try simp at hz)))
    have z0 : w1.cell? ⟨w.heap.size, 0, none⟩ = some (.int .i64 m0) := by rw [hc _ _ (by simp <;> omega)]; simp [go_sem]
    have z1 : w1.cell? ⟨w.heap.size, 1, none⟩ = some (.slice A1 ps.length c1) := by rw [hc _ _ (by simp <;> omega)]; simp [go_sem]
    have z2 : w1.cell? ⟨w.heap.size, 2, none⟩ = some (.slice A2 ss.length c2) := by rw [hc _ _ (by simp <;> omega)]; simp [go_sem]
    have z3 : w1.cell? ⟨w.heap.size + 1, 0, none⟩ = some (.slice A3 c.points.length c3) := by rw [hc _ _ (by simp)]; simp [go_sem]
    have z4 : w1.cell? ⟨w.heap.size + 1, 1, none⟩ = some (.slice A4 c.segs.length c4) := by rw [hc _ _ (by simp)]; simp [go_sem]
    have z5 : w1.cell? ⟨w.heap.size + 1 + 1, 0, none⟩ = some (.string x0) := by rw [hc _ _ (by simp)]; simp [go_sem]
    have z6 : w1.cell? ⟨w.heap.size + 1 + 1, 1, none⟩ = some (.int .i64 x1) := by rw [hc _ _ (by simp)]; simp [go_sem]
    have z7 : w1.cell? ⟨w.heap.size + 1 + 1, 2, none⟩ = some (.int .i64 x2) := by rw [hc _ _ (by simp)]; simp [go_sem]
    have z8 : w1.cell? ⟨w.heap.size + 1 + 1, 3, none⟩ = some (.int .i64 x3) := by rw [hc _ _ (by simp)]; simp [go_sem]
    have z9 : w1.cell? ⟨w.heap.size + 1 + 1, 4, none⟩ = some (.int .i64 x4) := by rw [hc _ _ (by simp)]; simp [go_sem]
    have z10 : w1.cell? ⟨w.heap.size + 1 + 1, 5, none⟩ = some (.bool x5) := by rw [hc _ _ (by simp)]; simp [go_sem]
    have hbw : Below w.heap.size w w1 := (by repeat (first | exact Below.refl _ _ | assumption | refine Below.setCell ?_ (by first | omega | (simp <;> omega)) _ | refine Below.alloc ?_ (by first | omega | (simp <;> omega)) _ | refine below_drewN ?_ _ | refine Below.drew ?_ | refine Below.trans ?_ (Below.mono (by assumption) (by first | omega | (simp <;> omega)))))
    have hs1 := hb.size
    simp only [World.size_alloc] at hs1
    clear hc hf hz hb
    obtain ⟨gC, hgC⟩ : ∃ g, w.heap.size + 1 = g := ⟨_, rfl⟩
    rw [hgC] at z3 z4 z5 z6 z7 z8 z9 z10 hs1 ⊢
    obtain ⟨gS, hgS⟩ : ∃ g, gC + 1 = g := ⟨_, rfl⟩
    rw [hgS] at z5 z6 z7 z8 z9 z10 hs1 ⊢
    have k1 : w.heap.size < w1.heap.size := by omega
    have k2 : gC < w1.heap.size := by omega
    have k3 : gS < w1.heap.size := by omega
    have hw1 : w.heap.size ≤ w1.heap.size := by omega
    have keepS : ∀ w', Below w1.heap.size w1 w' → w'.cell? ⟨w.heap.size, 0, none⟩ = some (.int .i64 m0) ∧ w'.cell? ⟨w.heap.size, 1, none⟩ = some (.slice A1 ps.length c1) ∧ w'.cell? ⟨w.heap.size, 2, none⟩ = some (.slice A2 ss.length c2) ∧ w'.cell? ⟨gC, 0, none⟩ = some (.slice A3 c.points.length c3) ∧ w'.cell? ⟨gC, 1, none⟩ = some (.slice A4 c.segs.length c4) ∧ w'.cell? ⟨gS, 0, none⟩ = some (.string x0) ∧ w'.cell? ⟨gS, 1, none⟩ = some (.int .i64 x1) ∧ w'.cell? ⟨gS, 2, none⟩ = some (.int .i64 x2) ∧ w'.cell? ⟨gS, 3, none⟩ = some (.int .i64 x3) ∧ w'.cell? ⟨gS, 4, none⟩ = some (.int .i64 x4) ∧ w'.cell? ⟨gS, 5, none⟩ = some (.bool x5) ∧ Below w1.heap.size w1 w' := fun w' hB => ⟨cellKeep hB z0 k1, cellKeep hB z1 k1, cellKeep hB z2 k1, cellKeep hB z3 k2, cellKeep hB z4 k2, cellKeep hB z5 k3, cellKeep hB z6 k3, cellKeep hB z7 k3, cellKeep hB z8 k3, cellKeep hB z9 k3, cellKeep hB z10 k3, hB⟩
    clear hgC hgS hs1
    go_region_held3 (fun w' => w'.cell? ⟨w.heap.size, 0, none⟩ = some (.int .i64 m0) ∧ w'.cell? ⟨w.heap.size, 1, none⟩ = some (.slice A1 ps.length c1) ∧ w'.cell? ⟨w.heap.size, 2, none⟩ = some (.slice A2 ss.length c2) ∧ w'.cell? ⟨gC, 0, none⟩ = some (.slice A3 c.points.length c3) ∧ w'.cell? ⟨gC, 1, none⟩ = some (.slice A4 c.segs.length c4) ∧ w'.cell? ⟨gS, 0, none⟩ = some (.string x0) ∧ w'.cell? ⟨gS, 1, none⟩ = some (.int .i64 x1) ∧ w'.cell? ⟨gS, 2, none⟩ = some (.int .i64 x2) ∧ w'.cell? ⟨gS, 3, none⟩ = some (.int .i64 x3) ∧ w'.cell? ⟨gS, 4, none⟩ = some (.int .i64 x4) ∧ w'.cell? ⟨gS, 5, none⟩ = some (.bool x5) ∧ Below w1.heap.size w1 w')
      (first
        | exact keepS _ (Below.drew (Below.refl _ _))
        | exact keepS _ hB8
        | exact keepS _ hB7
        | exact keepS _ hB6
        | exact keepS _ hB5)
      (first
        | (go_at_call 23; obtain ⟨_, _, _, _, _, _, _, _, _, _, _, qB⟩ := (by with_reducible assumption : _ ∧ _); with_reducible refine (calls_int (impl_LevelFor_any _ _ c k ⟨x0, x1, x2, x3, x4, x5⟩ _ ((HCR.out.keep (B' := w.heap.size) (hbw.trans (qB.mono (by omega))) (Nat.le_refl _)).mono (by have := qB.size; omega)) hokp hs) HLV.out).mono ?_; rintro e w5 ⟨rfl, hb5⟩; have hB5 := bnext qB hb5 (Nat.le_refl _))
        | (go_at_call 60; obtain ⟨_, _, _, _, _, _, _, _, _, _, _, qB⟩ := (by with_reducible assumption : _ ∧ _); with_reducible refine (impl_LowWindows_any _ _ ⟨m0, ps, ss⟩ lv _ ((HFR.out.keep (B' := w.heap.size) (hbw.trans (qB.mono (by omega))) (Nat.le_refl _)).mono (by have := qB.size; omega)) HOK.out).mono ?_; rintro e w6 ⟨v6, rfl, ho6, hb6⟩; have hB6 := bnext qB hb6 (Nat.le_refl _); rw [← accL_low] at ho6; have HO6 := hide ho6; clear ho6)
        | (go_at_call 12; obtain ⟨_, _, _, _, _, _, _, _, _, _, _, qB⟩ := (by with_reducible assumption : _ ∧ _); with_reducible refine (calls_int (impl_MinutesOn_any _ _ c k ⟨x0, x1, x2, x3, x4, x5⟩ _ ((HCR.out.keep (B' := w.heap.size) (hbw.trans (qB.mono (by omega))) (Nat.le_refl _)).mono (by have := qB.size; omega)) hokp hs) HN.out).mono ?_; rintro e w7 ⟨rfl, hb7⟩; have hB7 := bnext qB hb7 (Nat.le_refl _); have HO7 := hide (HO6.out.below hb7))
        | (go_at_call 59; obtain ⟨_, _, _, _, _, _, _, _, _, _, _, qB⟩ := (by with_reducible assumption : _ ∧ _); with_reducible refine (impl_ShrinkWindows_any _ _ n _ (Own.rd WindowD.enc_len HO7.out) (wins_ok _) (winsTo_len _ _) n0 n1).mono ?_; rintro e w8 ⟨v8, rfl, ho8, hb8⟩; have hB8 := bnext qB hb8 (Nat.le_refl _); have HO8 := hide ho8; clear ho8))
    go_wp2
    go_ret
    exact ⟨_, rfl, by rw [HV.out]; exact HO8.out.mono (by have := hb8.size; have := hB7.size; omega), hbw.trans (hB8.mono hw1)⟩
  all_goals
    have hv := HV.out
    (try rw [g1] at hv)
    (try rw [g2] at hv)
    simp only [Bool.and_false, Bool.false_and, Bool.false_eq_true, if_false] at hv
    replace HV := hide hv; clear hv
    go_enter Try.func21, Try.ntmps21
    go_wp2_with (first
      | (go_at_call 54; with_reducible refine (impl_ForecastOk_any _ _ ⟨m0, ps, ss⟩ _ ((HFR.out.keep (B' := w.heap.size) (by repeat (first | exact Below.refl _ _ | assumption | refine Below.setCell ?_ (by first | omega | (simp <;> omega)) _ | refine Below.alloc ?_ (by first | omega | (simp <;> omega)) _ | refine below_drewN ?_ _ | refine Below.drew ?_ | refine Below.trans ?_ (Below.mono (by assumption) (by first | omega | (simp <;> omega))))) (Nat.le_refl _)).mono (by first | omega | (simp <;> omega)))).mono ?_; rintro e w1 ⟨rfl, hb'⟩; (first | have hb := bnext hb hb' | have hb := bnextA hb hb' | have hb := hb'); clear hb'; obtain ⟨hc, hf⟩ := bcell hb; have hz := hb.size; (try simp at hz))
      | (go_at_call 53; with_reducible refine (impl_onSegment_any _ _ c k ⟨x0, x1, x2, x3, x4, x5⟩ _ ((HCR.out.keep (B' := w.heap.size) (by repeat (first | exact Below.refl _ _ | assumption | refine Below.setCell ?_ (by first | omega | (simp <;> omega)) _ | refine Below.alloc ?_ (by first | omega | (simp <;> omega)) _ | refine below_drewN ?_ _ | refine Below.drew ?_ | refine Below.trans ?_ (Below.mono (by assumption) (by first | omega | (simp <;> omega))))) (Nat.le_refl _)).mono (by first | omega | (simp <;> omega))) hokp hs).mono ?_; rintro e w1 ⟨rfl, hb'⟩; (first | have hb := bnext hb hb' | have hb := bnextA hb hb' | have hb := hb'); clear hb'; obtain ⟨hc, hf⟩ := bcell hb; have hz := hb.size; (try simp at hz)))
    go_ret
    exact ⟨_, rfl, by rw [HV.out]; exact Own.nil_, (by repeat (first | exact Below.refl _ _ | assumption | refine Below.setCell ?_ (by first | omega | (simp <;> omega)) _ | refine Below.alloc ?_ (by first | omega | (simp <;> omega)) _ | refine below_drewN ?_ _ | refine Below.drew ?_ | refine Below.trans ?_ (Below.mono (by assumption) (by first | omega | (simp <;> omega)))))⟩
set_option maxRecDepth 100000 in
set_option maxHeartbeats 16000000 in
theorem impl_OpenStarts_any (v1 v2 v3 v4 : Value) (f : ForeD) (c : ChartD) (k : Int) (s : ShipD) (w : World) (h : RdFore w w.heap.size v1 v2 f) (hch : RdChart w w.heap.size v3 v4 c) (hokp : ∀ x ∈ c.points, x.name.size ≤ maxLen) (hs : s.name.size ≤ maxLen) :
    Calls Try.prog 22 #[.agg #[.int .i64 f.m0, v1, v2], .agg #[v3, v4], .int .i64 k, s.val] w fun e w' => ∃ v, e = .returned v ∧ Own w' w.heap.size 94 2 WindowD.enc v (startsOf true f c k s) ∧ Below w.heap.size w w' := by
  have HFR := hide h; have HCR := hide hch
  obtain ⟨m0, ps, ss⟩ := f
  obtain ⟨x0, x1, x2, x3, x4, x5⟩ := s
  obtain ⟨h1, h2⟩ := h
  obtain ⟨h3, h4⟩ := hch
  simp only at h1 h2 hs HFR ⊢
  obtain ⟨A1, c1, rfl, hc1, hm1, h1⟩ := h1
  obtain ⟨A2, c2, rfl, hc2, hm2, h2⟩ := h2
  obtain ⟨A3, c3, rfl, hc3, hm3, h3⟩ := h3
  obtain ⟨A4, c4, rfl, hc4, hm4, h4⟩ := h4
  unfold maxLen at hm1 hm2 hm3 hm4
  clear h1 h2 h3 h4
  have hnr := minutes_range c k ⟨x0, x1, x2, x3, x4, x5⟩
  obtain ⟨n, hn⟩ : ∃ n : Int, minutesOn c k ⟨x0, x1, x2, x3, x4, x5⟩ = n := ⟨_, rfl⟩
  obtain ⟨lv, hlv⟩ : ∃ lv : Int, levelFor c k ⟨x0, x1, x2, x3, x4, x5⟩ = lv := ⟨_, rfl⟩
  have HV := hide (show startsOf true ⟨m0, ps, ss⟩ c k ⟨x0, x1, x2, x3, x4, x5⟩ = if (foreOk ⟨m0, ps, ss⟩ && onSeg c k ⟨x0, x1, x2, x3, x4, x5⟩) = true then shrinkL n (winsTo (accL true ⟨m0, ps, ss⟩ lv) 2881) else [] by unfold startsOf; rw [hn, hlv])
  rw [hn] at hnr
  have HN := hide hn
  have HLV := hide hlv
  clear hn hlv
  rcases ch2 (foreOk ⟨m0, ps, ss⟩) (onSeg c k ⟨x0, x1, x2, x3, x4, x5⟩) with ⟨g1, g2⟩ | g1 | ⟨g1, g2⟩
  · have hv := HV.out
    rw [g1, g2] at hv
    simp only [Bool.and_self, if_true] at hv
    replace HV := hide hv; clear hv
    have HOK := hide g1
    obtain ⟨n0, n1⟩ := hnr
    go_enter Try.func22, Try.ntmps22
    go_wp2_with (first
      | (go_at_call 54; with_reducible refine (impl_ForecastOk_any _ _ ⟨m0, ps, ss⟩ _ ((HFR.out.keep (B' := w.heap.size) (by repeat (first | exact Below.refl _ _ | assumption | refine Below.setCell ?_ (by first | omega | (simp <;> omega)) _ | refine Below.alloc ?_ (by first | omega | (simp <;> omega)) _ | refine below_drewN ?_ _ | refine Below.drew ?_ | refine Below.trans ?_ (Below.mono (by assumption) (by first | omega | (simp <;> omega))))) (Nat.le_refl _)).mono (by first | omega | (simp <;> omega)))).mono ?_; rintro e w1 ⟨rfl, hb'⟩; (first | have hb := bnext hb hb' | have hb := bnextA hb hb' | have hb := hb'); clear hb'; obtain ⟨hc, hf⟩ := bcell hb; have hz := hb.size; (try simp at hz))
      | (go_at_call 53; with_reducible refine (impl_onSegment_any _ _ c k ⟨x0, x1, x2, x3, x4, x5⟩ _ ((HCR.out.keep (B' := w.heap.size) (by repeat (first | exact Below.refl _ _ | assumption | refine Below.setCell ?_ (by first | omega | (simp <;> omega)) _ | refine Below.alloc ?_ (by first | omega | (simp <;> omega)) _ | refine below_drewN ?_ _ | refine Below.drew ?_ | refine Below.trans ?_ (Below.mono (by assumption) (by first | omega | (simp <;> omega))))) (Nat.le_refl _)).mono (by first | omega | (simp <;> omega))) hokp hs).mono ?_; rintro e w1 ⟨rfl, hb'⟩; (first | have hb := bnext hb hb' | have hb := bnextA hb hb' | have hb := hb'); clear hb'; obtain ⟨hc, hf⟩ := bcell hb; have hz := hb.size; (try simp at hz)))
    have z0 : w1.cell? ⟨w.heap.size, 0, none⟩ = some (.int .i64 m0) := by rw [hc _ _ (by simp <;> omega)]; simp [go_sem]
    have z1 : w1.cell? ⟨w.heap.size, 1, none⟩ = some (.slice A1 ps.length c1) := by rw [hc _ _ (by simp <;> omega)]; simp [go_sem]
    have z2 : w1.cell? ⟨w.heap.size, 2, none⟩ = some (.slice A2 ss.length c2) := by rw [hc _ _ (by simp <;> omega)]; simp [go_sem]
    have z3 : w1.cell? ⟨w.heap.size + 1, 0, none⟩ = some (.slice A3 c.points.length c3) := by rw [hc _ _ (by simp)]; simp [go_sem]
    have z4 : w1.cell? ⟨w.heap.size + 1, 1, none⟩ = some (.slice A4 c.segs.length c4) := by rw [hc _ _ (by simp)]; simp [go_sem]
    have z5 : w1.cell? ⟨w.heap.size + 1 + 1, 0, none⟩ = some (.string x0) := by rw [hc _ _ (by simp)]; simp [go_sem]
    have z6 : w1.cell? ⟨w.heap.size + 1 + 1, 1, none⟩ = some (.int .i64 x1) := by rw [hc _ _ (by simp)]; simp [go_sem]
    have z7 : w1.cell? ⟨w.heap.size + 1 + 1, 2, none⟩ = some (.int .i64 x2) := by rw [hc _ _ (by simp)]; simp [go_sem]
    have z8 : w1.cell? ⟨w.heap.size + 1 + 1, 3, none⟩ = some (.int .i64 x3) := by rw [hc _ _ (by simp)]; simp [go_sem]
    have z9 : w1.cell? ⟨w.heap.size + 1 + 1, 4, none⟩ = some (.int .i64 x4) := by rw [hc _ _ (by simp)]; simp [go_sem]
    have z10 : w1.cell? ⟨w.heap.size + 1 + 1, 5, none⟩ = some (.bool x5) := by rw [hc _ _ (by simp)]; simp [go_sem]
    have hbw : Below w.heap.size w w1 := (by repeat (first | exact Below.refl _ _ | assumption | refine Below.setCell ?_ (by first | omega | (simp <;> omega)) _ | refine Below.alloc ?_ (by first | omega | (simp <;> omega)) _ | refine below_drewN ?_ _ | refine Below.drew ?_ | refine Below.trans ?_ (Below.mono (by assumption) (by first | omega | (simp <;> omega)))))
    have hs1 := hb.size
    simp only [World.size_alloc] at hs1
    clear hc hf hz hb
    obtain ⟨gC, hgC⟩ : ∃ g, w.heap.size + 1 = g := ⟨_, rfl⟩
    rw [hgC] at z3 z4 z5 z6 z7 z8 z9 z10 hs1 ⊢
    obtain ⟨gS, hgS⟩ : ∃ g, gC + 1 = g := ⟨_, rfl⟩
    rw [hgS] at z5 z6 z7 z8 z9 z10 hs1 ⊢
    have k1 : w.heap.size < w1.heap.size := by omega
    have k2 : gC < w1.heap.size := by omega
    have k3 : gS < w1.heap.size := by omega
    have hw1 : w.heap.size ≤ w1.heap.size := by omega
    have keepS : ∀ w', Below w1.heap.size w1 w' → w'.cell? ⟨w.heap.size, 0, none⟩ = some (.int .i64 m0) ∧ w'.cell? ⟨w.heap.size, 1, none⟩ = some (.slice A1 ps.length c1) ∧ w'.cell? ⟨w.heap.size, 2, none⟩ = some (.slice A2 ss.length c2) ∧ w'.cell? ⟨gC, 0, none⟩ = some (.slice A3 c.points.length c3) ∧ w'.cell? ⟨gC, 1, none⟩ = some (.slice A4 c.segs.length c4) ∧ w'.cell? ⟨gS, 0, none⟩ = some (.string x0) ∧ w'.cell? ⟨gS, 1, none⟩ = some (.int .i64 x1) ∧ w'.cell? ⟨gS, 2, none⟩ = some (.int .i64 x2) ∧ w'.cell? ⟨gS, 3, none⟩ = some (.int .i64 x3) ∧ w'.cell? ⟨gS, 4, none⟩ = some (.int .i64 x4) ∧ w'.cell? ⟨gS, 5, none⟩ = some (.bool x5) ∧ Below w1.heap.size w1 w' := fun w' hB => ⟨cellKeep hB z0 k1, cellKeep hB z1 k1, cellKeep hB z2 k1, cellKeep hB z3 k2, cellKeep hB z4 k2, cellKeep hB z5 k3, cellKeep hB z6 k3, cellKeep hB z7 k3, cellKeep hB z8 k3, cellKeep hB z9 k3, cellKeep hB z10 k3, hB⟩
    clear hgC hgS hs1
    go_region_held3 (fun w' => w'.cell? ⟨w.heap.size, 0, none⟩ = some (.int .i64 m0) ∧ w'.cell? ⟨w.heap.size, 1, none⟩ = some (.slice A1 ps.length c1) ∧ w'.cell? ⟨w.heap.size, 2, none⟩ = some (.slice A2 ss.length c2) ∧ w'.cell? ⟨gC, 0, none⟩ = some (.slice A3 c.points.length c3) ∧ w'.cell? ⟨gC, 1, none⟩ = some (.slice A4 c.segs.length c4) ∧ w'.cell? ⟨gS, 0, none⟩ = some (.string x0) ∧ w'.cell? ⟨gS, 1, none⟩ = some (.int .i64 x1) ∧ w'.cell? ⟨gS, 2, none⟩ = some (.int .i64 x2) ∧ w'.cell? ⟨gS, 3, none⟩ = some (.int .i64 x3) ∧ w'.cell? ⟨gS, 4, none⟩ = some (.int .i64 x4) ∧ w'.cell? ⟨gS, 5, none⟩ = some (.bool x5) ∧ Below w1.heap.size w1 w')
      (first
        | exact keepS _ (Below.drew (Below.refl _ _))
        | exact keepS _ hB8
        | exact keepS _ hB7
        | exact keepS _ hB6
        | exact keepS _ hB5)
      (first
        | (go_at_call 23; obtain ⟨_, _, _, _, _, _, _, _, _, _, _, qB⟩ := (by with_reducible assumption : _ ∧ _); with_reducible refine (calls_int (impl_LevelFor_any _ _ c k ⟨x0, x1, x2, x3, x4, x5⟩ _ ((HCR.out.keep (B' := w.heap.size) (hbw.trans (qB.mono (by omega))) (Nat.le_refl _)).mono (by have := qB.size; omega)) hokp hs) HLV.out).mono ?_; rintro e w5 ⟨rfl, hb5⟩; have hB5 := bnext qB hb5 (Nat.le_refl _))
        | (go_at_call 61; obtain ⟨_, _, _, _, _, _, _, _, _, _, _, qB⟩ := (by with_reducible assumption : _ ∧ _); with_reducible refine (impl_HighWindows_any _ _ ⟨m0, ps, ss⟩ lv _ ((HFR.out.keep (B' := w.heap.size) (hbw.trans (qB.mono (by omega))) (Nat.le_refl _)).mono (by have := qB.size; omega)) HOK.out).mono ?_; rintro e w6 ⟨v6, rfl, ho6, hb6⟩; have hB6 := bnext qB hb6 (Nat.le_refl _); rw [← accL_high] at ho6; have HO6 := hide ho6; clear ho6)
        | (go_at_call 12; obtain ⟨_, _, _, _, _, _, _, _, _, _, _, qB⟩ := (by with_reducible assumption : _ ∧ _); with_reducible refine (calls_int (impl_MinutesOn_any _ _ c k ⟨x0, x1, x2, x3, x4, x5⟩ _ ((HCR.out.keep (B' := w.heap.size) (hbw.trans (qB.mono (by omega))) (Nat.le_refl _)).mono (by have := qB.size; omega)) hokp hs) HN.out).mono ?_; rintro e w7 ⟨rfl, hb7⟩; have hB7 := bnext qB hb7 (Nat.le_refl _); have HO7 := hide (HO6.out.below hb7))
        | (go_at_call 59; obtain ⟨_, _, _, _, _, _, _, _, _, _, _, qB⟩ := (by with_reducible assumption : _ ∧ _); with_reducible refine (impl_ShrinkWindows_any _ _ n _ (Own.rd WindowD.enc_len HO7.out) (wins_ok _) (winsTo_len _ _) n0 n1).mono ?_; rintro e w8 ⟨v8, rfl, ho8, hb8⟩; have hB8 := bnext qB hb8 (Nat.le_refl _); have HO8 := hide ho8; clear ho8))
    go_wp2
    go_ret
    exact ⟨_, rfl, by rw [HV.out]; exact HO8.out.mono (by have := hb8.size; have := hB7.size; omega), hbw.trans (hB8.mono hw1)⟩
  all_goals
    have hv := HV.out
    (try rw [g1] at hv)
    (try rw [g2] at hv)
    simp only [Bool.and_false, Bool.false_and, Bool.false_eq_true, if_false] at hv
    replace HV := hide hv; clear hv
    go_enter Try.func22, Try.ntmps22
    go_wp2_with (first
      | (go_at_call 54; with_reducible refine (impl_ForecastOk_any _ _ ⟨m0, ps, ss⟩ _ ((HFR.out.keep (B' := w.heap.size) (by repeat (first | exact Below.refl _ _ | assumption | refine Below.setCell ?_ (by first | omega | (simp <;> omega)) _ | refine Below.alloc ?_ (by first | omega | (simp <;> omega)) _ | refine below_drewN ?_ _ | refine Below.drew ?_ | refine Below.trans ?_ (Below.mono (by assumption) (by first | omega | (simp <;> omega))))) (Nat.le_refl _)).mono (by first | omega | (simp <;> omega)))).mono ?_; rintro e w1 ⟨rfl, hb'⟩; (first | have hb := bnext hb hb' | have hb := bnextA hb hb' | have hb := hb'); clear hb'; obtain ⟨hc, hf⟩ := bcell hb; have hz := hb.size; (try simp at hz))
      | (go_at_call 53; with_reducible refine (impl_onSegment_any _ _ c k ⟨x0, x1, x2, x3, x4, x5⟩ _ ((HCR.out.keep (B' := w.heap.size) (by repeat (first | exact Below.refl _ _ | assumption | refine Below.setCell ?_ (by first | omega | (simp <;> omega)) _ | refine Below.alloc ?_ (by first | omega | (simp <;> omega)) _ | refine below_drewN ?_ _ | refine Below.drew ?_ | refine Below.trans ?_ (Below.mono (by assumption) (by first | omega | (simp <;> omega))))) (Nat.le_refl _)).mono (by first | omega | (simp <;> omega))) hokp hs).mono ?_; rintro e w1 ⟨rfl, hb'⟩; (first | have hb := bnext hb hb' | have hb := bnextA hb hb' | have hb := hb'); clear hb'; obtain ⟨hc, hf⟩ := bcell hb; have hz := hb.size; (try simp at hz)))
    go_ret
    exact ⟨_, rfl, by rw [HV.out]; exact Own.nil_, (by repeat (first | exact Below.refl _ _ | assumption | refine Below.setCell ?_ (by first | omega | (simp <;> omega)) _ | refine Below.alloc ?_ (by first | omega | (simp <;> omega)) _ | refine below_drewN ?_ _ | refine Below.drew ?_ | refine Below.trans ?_ (Below.mono (by assumption) (by first | omega | (simp <;> omega)))))⟩
set_option maxRecDepth 100000 in
set_option maxHeartbeats 8000000 in
theorem spec_SureStarts_any (v1 v2 v3 v4 : Value) (f : ForeD) (c : ChartD) (k : Int) (s : ShipD) (w : World) (h : RdFore w w.heap.size v1 v2 f) (hch : RdChart w w.heap.size v3 v4 c) (hokp : ∀ x ∈ c.points, x.name.size ≤ maxLen) (hs : s.name.size ≤ maxLen) :
    Calls Try.prog 81 #[.agg #[.int .i64 f.m0, v1, v2], .agg #[v3, v4], .int .i64 k, s.val] w fun e w' => ∃ v, e = .returned v ∧ Own w' w.heap.size 94 2 WindowD.enc v (startsOf false f c k s) ∧ Below w.heap.size w w' := by
  have HFR := hide h; have HCR := hide hch
  obtain ⟨m0, ps, ss⟩ := f
  obtain ⟨x0, x1, x2, x3, x4, x5⟩ := s
  obtain ⟨h1, h2⟩ := h
  obtain ⟨h3, h4⟩ := hch
  simp only at h1 h2 hs HFR ⊢
  obtain ⟨A1, c1, rfl, hc1, hm1, h1⟩ := h1
  obtain ⟨A2, c2, rfl, hc2, hm2, h2⟩ := h2
  obtain ⟨A3, c3, rfl, hc3, hm3, h3⟩ := h3
  obtain ⟨A4, c4, rfl, hc4, hm4, h4⟩ := h4
  unfold maxLen at hm1 hm2 hm3 hm4
  clear h1 h2 h3 h4
  go_enter Try.func81, Try.ntmps81
  go_wp2_with (go_at_call 82; with_reducible refine (spec_l07Starts_any _ _ _ _ ⟨m0, ps, ss⟩ c k ⟨x0, x1, x2, x3, x4, x5⟩ false _ ((HFR.out.keep (B' := w.heap.size) (by repeat (first | exact Below.refl _ _ | assumption | refine Below.setCell ?_ (by first | omega | (simp <;> omega)) _ | refine Below.alloc ?_ (by first | omega | (simp <;> omega)) _ | refine below_drewN ?_ _ | refine Below.drew ?_ | refine Below.trans ?_ (Below.mono (by assumption) (by first | omega | (simp <;> omega))))) (Nat.le_refl _)).mono (by first | omega | (simp <;> omega))) ((HCR.out.keep (B' := w.heap.size) (by repeat (first | exact Below.refl _ _ | assumption | refine Below.setCell ?_ (by first | omega | (simp <;> omega)) _ | refine Below.alloc ?_ (by first | omega | (simp <;> omega)) _ | refine below_drewN ?_ _ | refine Below.drew ?_ | refine Below.trans ?_ (Below.mono (by assumption) (by first | omega | (simp <;> omega))))) (Nat.le_refl _)).mono (by first | omega | (simp <;> omega))) hokp hs).mono ?_; rintro e w1 ⟨v9, rfl, ho, hb'⟩; have HO := hide ho; clear ho; (first | have hb := bnext hb hb' | have hb := bnextA hb hb' | have hb := hb'); clear hb'; obtain ⟨hc, hf⟩ := bcell hb; have hz := hb.size; (try simp at hz))
  go_ret
  exact ⟨_, rfl, HO.out.mono (by simp <;> omega), (by repeat (first | exact Below.refl _ _ | assumption | refine Below.setCell ?_ (by first | omega | (simp <;> omega)) _ | refine Below.alloc ?_ (by first | omega | (simp <;> omega)) _ | refine below_drewN ?_ _ | refine Below.drew ?_ | refine Below.trans ?_ (Below.mono (by assumption) (by first | omega | (simp <;> omega)))))⟩
set_option maxRecDepth 100000 in
set_option maxHeartbeats 8000000 in
theorem spec_OpenStarts_any (v1 v2 v3 v4 : Value) (f : ForeD) (c : ChartD) (k : Int) (s : ShipD) (w : World) (h : RdFore w w.heap.size v1 v2 f) (hch : RdChart w w.heap.size v3 v4 c) (hokp : ∀ x ∈ c.points, x.name.size ≤ maxLen) (hs : s.name.size ≤ maxLen) :
    Calls Try.prog 35 #[.agg #[.int .i64 f.m0, v1, v2], .agg #[v3, v4], .int .i64 k, s.val] w fun e w' => ∃ v, e = .returned v ∧ Own w' w.heap.size 94 2 WindowD.enc v (startsOf true f c k s) ∧ Below w.heap.size w w' := by
  have HFR := hide h; have HCR := hide hch
  obtain ⟨m0, ps, ss⟩ := f
  obtain ⟨x0, x1, x2, x3, x4, x5⟩ := s
  obtain ⟨h1, h2⟩ := h
  obtain ⟨h3, h4⟩ := hch
  simp only at h1 h2 hs HFR ⊢
  obtain ⟨A1, c1, rfl, hc1, hm1, h1⟩ := h1
  obtain ⟨A2, c2, rfl, hc2, hm2, h2⟩ := h2
  obtain ⟨A3, c3, rfl, hc3, hm3, h3⟩ := h3
  obtain ⟨A4, c4, rfl, hc4, hm4, h4⟩ := h4
  unfold maxLen at hm1 hm2 hm3 hm4
  clear h1 h2 h3 h4
  go_enter Try.func35, Try.ntmps35
  go_wp2_with (go_at_call 82; with_reducible refine (spec_l07Starts_any _ _ _ _ ⟨m0, ps, ss⟩ c k ⟨x0, x1, x2, x3, x4, x5⟩ true _ ((HFR.out.keep (B' := w.heap.size) (by repeat (first | exact Below.refl _ _ | assumption | refine Below.setCell ?_ (by first | omega | (simp <;> omega)) _ | refine Below.alloc ?_ (by first | omega | (simp <;> omega)) _ | refine below_drewN ?_ _ | refine Below.drew ?_ | refine Below.trans ?_ (Below.mono (by assumption) (by first | omega | (simp <;> omega))))) (Nat.le_refl _)).mono (by first | omega | (simp <;> omega))) ((HCR.out.keep (B' := w.heap.size) (by repeat (first | exact Below.refl _ _ | assumption | refine Below.setCell ?_ (by first | omega | (simp <;> omega)) _ | refine Below.alloc ?_ (by first | omega | (simp <;> omega)) _ | refine below_drewN ?_ _ | refine Below.drew ?_ | refine Below.trans ?_ (Below.mono (by assumption) (by first | omega | (simp <;> omega))))) (Nat.le_refl _)).mono (by first | omega | (simp <;> omega))) hokp hs).mono ?_; rintro e w1 ⟨v9, rfl, ho, hb'⟩; have HO := hide ho; clear ho; (first | have hb := bnext hb hb' | have hb := bnextA hb hb' | have hb := hb'); clear hb'; obtain ⟨hc, hf⟩ := bcell hb; have hz := hb.size; (try simp at hz))
  go_ret
  exact ⟨_, rfl, HO.out.mono (by simp <;> omega), (by repeat (first | exact Below.refl _ _ | assumption | refine Below.setCell ?_ (by first | omega | (simp <;> omega)) _ | refine Below.alloc ?_ (by first | omega | (simp <;> omega)) _ | refine below_drewN ?_ _ | refine Below.drew ?_ | refine Below.trans ?_ (Below.mono (by assumption) (by first | omega | (simp <;> omega)))))⟩
set_option maxRecDepth 100000 in
set_option maxHeartbeats 8000000 in
theorem spec_IsSure_any (v1 v2 v3 v4 : Value) (f : ForeD) (c : ChartD) (k : Int) (s : ShipD) (m : Int) (w : World) (h : RdFore w w.heap.size v1 v2 f) (hch : RdChart w w.heap.size v3 v4 c) (hokp : ∀ x ∈ c.points, x.name.size ≤ maxLen) (hs : s.name.size ≤ maxLen) :
    Calls Try.prog 34 #[.agg #[.int .i64 f.m0, v1, v2], .agg #[v3, v4], .int .i64 k, s.val, .int .i64 m] w fun e w' => e = .returned (.bool (hasMin (startsOf false f c k s) m)) ∧ Below w.heap.size w w' := by
  have HFR := hide h; have HCR := hide hch
  obtain ⟨m0, ps, ss⟩ := f
  obtain ⟨x0, x1, x2, x3, x4, x5⟩ := s
  obtain ⟨h1, h2⟩ := h
  obtain ⟨h3, h4⟩ := hch
  simp only at h1 h2 hs HFR ⊢
  obtain ⟨A1, c1, rfl, hc1, hm1, h1⟩ := h1
  obtain ⟨A2, c2, rfl, hc2, hm2, h2⟩ := h2
  obtain ⟨A3, c3, rfl, hc3, hm3, h3⟩ := h3
  obtain ⟨A4, c4, rfl, hc4, hm4, h4⟩ := h4
  unfold maxLen at hm1 hm2 hm3 hm4
  clear h1 h2 h3 h4
  go_enter Try.func34, Try.ntmps34
  go_wp2_with (first
    | (go_at_call 81; with_reducible refine (spec_SureStarts_any _ _ _ _ ⟨m0, ps, ss⟩ c k ⟨x0, x1, x2, x3, x4, x5⟩ _ ((HFR.out.keep (B' := w.heap.size) (by repeat (first | exact Below.refl _ _ | assumption | refine Below.setCell ?_ (by first | omega | (simp <;> omega)) _ | refine Below.alloc ?_ (by first | omega | (simp <;> omega)) _ | refine below_drewN ?_ _ | refine Below.drew ?_ | refine Below.trans ?_ (Below.mono (by assumption) (by first | omega | (simp <;> omega))))) (Nat.le_refl _)).mono (by first | omega | (simp <;> omega))) ((HCR.out.keep (B' := w.heap.size) (by repeat (first | exact Below.refl _ _ | assumption | refine Below.setCell ?_ (by first | omega | (simp <;> omega)) _ | refine Below.alloc ?_ (by first | omega | (simp <;> omega)) _ | refine below_drewN ?_ _ | refine Below.drew ?_ | refine Below.trans ?_ (Below.mono (by assumption) (by first | omega | (simp <;> omega))))) (Nat.le_refl _)).mono (by first | omega | (simp <;> omega))) hokp hs).mono ?_; rintro e w1 ⟨v9, rfl, ho, hb'⟩; have HO := hide ho; clear ho; (first | have hb := bnext hb hb' | have hb := bnextA hb hb' | have hb := hb'); clear hb'; obtain ⟨hc, hf⟩ := bcell hb; have hz := hb.size; (try simp at hz))
    | (go_at_call 80; with_reducible refine (spec_HasMinute_any _ _ m _ (Own.rd WindowD.enc_len HO.out)).mono ?_; rintro e w2 ⟨rfl, hb2⟩))
  go_ret
  exact ⟨rfl, bnext (show Below w.heap.size w w1 from (by repeat (first | exact Below.refl _ _ | assumption | refine Below.setCell ?_ (by first | omega | (simp <;> omega)) _ | refine Below.alloc ?_ (by first | omega | (simp <;> omega)) _ | refine below_drewN ?_ _ | refine Below.drew ?_ | refine Below.trans ?_ (Below.mono (by assumption) (by first | omega | (simp <;> omega)))))) hb2 (by have := hb.size; simp at this; omega)⟩
set_option maxRecDepth 100000 in
set_option maxHeartbeats 8000000 in
theorem spec_IsOpenStart_any (v1 v2 v3 v4 : Value) (f : ForeD) (c : ChartD) (k : Int) (s : ShipD) (m : Int) (w : World) (h : RdFore w w.heap.size v1 v2 f) (hch : RdChart w w.heap.size v3 v4 c) (hokp : ∀ x ∈ c.points, x.name.size ≤ maxLen) (hs : s.name.size ≤ maxLen) :
    Calls Try.prog 33 #[.agg #[.int .i64 f.m0, v1, v2], .agg #[v3, v4], .int .i64 k, s.val, .int .i64 m] w fun e w' => e = .returned (.bool (hasMin (startsOf true f c k s) m)) ∧ Below w.heap.size w w' := by
  have HFR := hide h; have HCR := hide hch
  obtain ⟨m0, ps, ss⟩ := f
  obtain ⟨x0, x1, x2, x3, x4, x5⟩ := s
  obtain ⟨h1, h2⟩ := h
  obtain ⟨h3, h4⟩ := hch
  simp only at h1 h2 hs HFR ⊢
  obtain ⟨A1, c1, rfl, hc1, hm1, h1⟩ := h1
  obtain ⟨A2, c2, rfl, hc2, hm2, h2⟩ := h2
  obtain ⟨A3, c3, rfl, hc3, hm3, h3⟩ := h3
  obtain ⟨A4, c4, rfl, hc4, hm4, h4⟩ := h4
  unfold maxLen at hm1 hm2 hm3 hm4
  clear h1 h2 h3 h4
  go_enter Try.func33, Try.ntmps33
  go_wp2_with (first
    | (go_at_call 35; with_reducible refine (spec_OpenStarts_any _ _ _ _ ⟨m0, ps, ss⟩ c k ⟨x0, x1, x2, x3, x4, x5⟩ _ ((HFR.out.keep (B' := w.heap.size) (by repeat (first | exact Below.refl _ _ | assumption | refine Below.setCell ?_ (by first | omega | (simp <;> omega)) _ | refine Below.alloc ?_ (by first | omega | (simp <;> omega)) _ | refine below_drewN ?_ _ | refine Below.drew ?_ | refine Below.trans ?_ (Below.mono (by assumption) (by first | omega | (simp <;> omega))))) (Nat.le_refl _)).mono (by first | omega | (simp <;> omega))) ((HCR.out.keep (B' := w.heap.size) (by repeat (first | exact Below.refl _ _ | assumption | refine Below.setCell ?_ (by first | omega | (simp <;> omega)) _ | refine Below.alloc ?_ (by first | omega | (simp <;> omega)) _ | refine below_drewN ?_ _ | refine Below.drew ?_ | refine Below.trans ?_ (Below.mono (by assumption) (by first | omega | (simp <;> omega))))) (Nat.le_refl _)).mono (by first | omega | (simp <;> omega))) hokp hs).mono ?_; rintro e w1 ⟨v9, rfl, ho, hb'⟩; have HO := hide ho; clear ho; (first | have hb := bnext hb hb' | have hb := bnextA hb hb' | have hb := hb'); clear hb'; obtain ⟨hc, hf⟩ := bcell hb; have hz := hb.size; (try simp at hz))
    | (go_at_call 80; with_reducible refine (spec_HasMinute_any _ _ m _ (Own.rd WindowD.enc_len HO.out)).mono ?_; rintro e w2 ⟨rfl, hb2⟩))
  go_ret
  exact ⟨rfl, bnext (show Below w.heap.size w w1 from (by repeat (first | exact Below.refl _ _ | assumption | refine Below.setCell ?_ (by first | omega | (simp <;> omega)) _ | refine Below.alloc ?_ (by first | omega | (simp <;> omega)) _ | refine below_drewN ?_ _ | refine Below.drew ?_ | refine Below.trans ?_ (Below.mono (by assumption) (by first | omega | (simp <;> omega)))))) hb2 (by have := hb.size; simp at this; omega)⟩
set_option maxRecDepth 100000 in
set_option maxHeartbeats 8000000 in
theorem impl_IsSure_any (v1 v2 v3 v4 : Value) (f : ForeD) (c : ChartD) (k : Int) (s : ShipD) (m : Int) (w : World) (h : RdFore w w.heap.size v1 v2 f) (hch : RdChart w w.heap.size v3 v4 c) (hokp : ∀ x ∈ c.points, x.name.size ≤ maxLen) (hs : s.name.size ≤ maxLen) :
    Calls Try.prog 18 #[.agg #[.int .i64 f.m0, v1, v2], .agg #[v3, v4], .int .i64 k, s.val, .int .i64 m] w fun e w' => e = .returned (.bool (hasMin (startsOf false f c k s) m)) ∧ Below w.heap.size w w' := by
  have HFR := hide h; have HCR := hide hch
  obtain ⟨m0, ps, ss⟩ := f
  obtain ⟨x0, x1, x2, x3, x4, x5⟩ := s
  obtain ⟨h1, h2⟩ := h
  obtain ⟨h3, h4⟩ := hch
  simp only at h1 h2 hs HFR ⊢
  obtain ⟨A1, c1, rfl, hc1, hm1, h1⟩ := h1
  obtain ⟨A2, c2, rfl, hc2, hm2, h2⟩ := h2
  obtain ⟨A3, c3, rfl, hc3, hm3, h3⟩ := h3
  obtain ⟨A4, c4, rfl, hc4, hm4, h4⟩ := h4
  unfold maxLen at hm1 hm2 hm3 hm4
  clear h1 h2 h3 h4
  go_enter Try.func18, Try.ntmps18
  go_wp2_with (first
    | (go_at_call 21; with_reducible refine (impl_SureStarts_any _ _ _ _ ⟨m0, ps, ss⟩ c k ⟨x0, x1, x2, x3, x4, x5⟩ _ ((HFR.out.keep (B' := w.heap.size) (by repeat (first | exact Below.refl _ _ | assumption | refine Below.setCell ?_ (by first | omega | (simp <;> omega)) _ | refine Below.alloc ?_ (by first | omega | (simp <;> omega)) _ | refine below_drewN ?_ _ | refine Below.drew ?_ | refine Below.trans ?_ (Below.mono (by assumption) (by first | omega | (simp <;> omega))))) (Nat.le_refl _)).mono (by first | omega | (simp <;> omega))) ((HCR.out.keep (B' := w.heap.size) (by repeat (first | exact Below.refl _ _ | assumption | refine Below.setCell ?_ (by first | omega | (simp <;> omega)) _ | refine Below.alloc ?_ (by first | omega | (simp <;> omega)) _ | refine below_drewN ?_ _ | refine Below.drew ?_ | refine Below.trans ?_ (Below.mono (by assumption) (by first | omega | (simp <;> omega))))) (Nat.le_refl _)).mono (by first | omega | (simp <;> omega))) hokp hs).mono ?_; rintro e w1 ⟨v9, rfl, ho, hb'⟩; have HO := hide ho; clear ho; (first | have hb := bnext hb hb' | have hb := bnextA hb hb' | have hb := hb'); clear hb'; obtain ⟨hc, hf⟩ := bcell hb; have hz := hb.size; (try simp at hz))
    | (go_at_call 57; with_reducible refine (impl_HasMinute_any _ _ m _ (Own.rd WindowD.enc_len HO.out)).mono ?_; rintro e w2 ⟨rfl, hb2⟩))
  go_ret
  exact ⟨rfl, bnext (show Below w.heap.size w w1 from (by repeat (first | exact Below.refl _ _ | assumption | refine Below.setCell ?_ (by first | omega | (simp <;> omega)) _ | refine Below.alloc ?_ (by first | omega | (simp <;> omega)) _ | refine below_drewN ?_ _ | refine Below.drew ?_ | refine Below.trans ?_ (Below.mono (by assumption) (by first | omega | (simp <;> omega)))))) hb2 (by have := hb.size; simp at this; omega)⟩
set_option maxRecDepth 100000 in
set_option maxHeartbeats 8000000 in
theorem impl_IsOpenStart_any (v1 v2 v3 v4 : Value) (f : ForeD) (c : ChartD) (k : Int) (s : ShipD) (m : Int) (w : World) (h : RdFore w w.heap.size v1 v2 f) (hch : RdChart w w.heap.size v3 v4 c) (hokp : ∀ x ∈ c.points, x.name.size ≤ maxLen) (hs : s.name.size ≤ maxLen) :
    Calls Try.prog 19 #[.agg #[.int .i64 f.m0, v1, v2], .agg #[v3, v4], .int .i64 k, s.val, .int .i64 m] w fun e w' => e = .returned (.bool (hasMin (startsOf true f c k s) m)) ∧ Below w.heap.size w w' := by
  have HFR := hide h; have HCR := hide hch
  obtain ⟨m0, ps, ss⟩ := f
  obtain ⟨x0, x1, x2, x3, x4, x5⟩ := s
  obtain ⟨h1, h2⟩ := h
  obtain ⟨h3, h4⟩ := hch
  simp only at h1 h2 hs HFR ⊢
  obtain ⟨A1, c1, rfl, hc1, hm1, h1⟩ := h1
  obtain ⟨A2, c2, rfl, hc2, hm2, h2⟩ := h2
  obtain ⟨A3, c3, rfl, hc3, hm3, h3⟩ := h3
  obtain ⟨A4, c4, rfl, hc4, hm4, h4⟩ := h4
  unfold maxLen at hm1 hm2 hm3 hm4
  clear h1 h2 h3 h4
  go_enter Try.func19, Try.ntmps19
  go_wp2_with (first
    | (go_at_call 22; with_reducible refine (impl_OpenStarts_any _ _ _ _ ⟨m0, ps, ss⟩ c k ⟨x0, x1, x2, x3, x4, x5⟩ _ ((HFR.out.keep (B' := w.heap.size) (by repeat (first | exact Below.refl _ _ | assumption | refine Below.setCell ?_ (by first | omega | (simp <;> omega)) _ | refine Below.alloc ?_ (by first | omega | (simp <;> omega)) _ | refine below_drewN ?_ _ | refine Below.drew ?_ | refine Below.trans ?_ (Below.mono (by assumption) (by first | omega | (simp <;> omega))))) (Nat.le_refl _)).mono (by first | omega | (simp <;> omega))) ((HCR.out.keep (B' := w.heap.size) (by repeat (first | exact Below.refl _ _ | assumption | refine Below.setCell ?_ (by first | omega | (simp <;> omega)) _ | refine Below.alloc ?_ (by first | omega | (simp <;> omega)) _ | refine below_drewN ?_ _ | refine Below.drew ?_ | refine Below.trans ?_ (Below.mono (by assumption) (by first | omega | (simp <;> omega))))) (Nat.le_refl _)).mono (by first | omega | (simp <;> omega))) hokp hs).mono ?_; rintro e w1 ⟨v9, rfl, ho, hb'⟩; have HO := hide ho; clear ho; (first | have hb := bnext hb hb' | have hb := bnextA hb hb' | have hb := hb'); clear hb'; obtain ⟨hc, hf⟩ := bcell hb; have hz := hb.size; (try simp at hz))
    | (go_at_call 57; with_reducible refine (impl_HasMinute_any _ _ m _ (Own.rd WindowD.enc_len HO.out)).mono ?_; rintro e w2 ⟨rfl, hb2⟩))
  go_ret
  exact ⟨rfl, bnext (show Below w.heap.size w w1 from (by repeat (first | exact Below.refl _ _ | assumption | refine Below.setCell ?_ (by first | omega | (simp <;> omega)) _ | refine Below.alloc ?_ (by first | omega | (simp <;> omega)) _ | refine below_drewN ?_ _ | refine Below.drew ?_ | refine Below.trans ?_ (Below.mono (by assumption) (by first | omega | (simp <;> omega)))))) hb2 (by have := hb.size; simp at this; omega)⟩
end Go.Proofs.Ytpbcbdjjpkenjaa

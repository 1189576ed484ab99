/- Forecasts as the laws' helpers handle them: conversion, comparison, size, opening. No condition. -/
import Derived.Test.YtpbcbdjjpkenjaaGreatFore
namespace Go.Proofs.YtpbcbdjjpkenjaaGreat
open Go.RowKit
set_option linter.unusedVariables false
set_option maxRecDepth 100000 in
set_option maxHeartbeats 4000000 in
theorem toTide_any (m0 : Int) (v1 : Value) (ps : List PartD) (w : World) (h : RdPart w v1 ps) (hn : ps.length ≤ 1048576) :
    Calls Tryz.prog 41 #[.agg #[.int .i64 m0, v1]] w fun e w' => ∃ g, e = .returned (.agg #[.int .i64 m0, .slice (some ⟨g, 0, none⟩) ps.length ps.length]) ∧ Own w' w.heap.size 160 3 PartD.enc (.slice (some ⟨g, 0, none⟩) ps.length ps.length) ps ∧ Below w.heap.size w w' := by
  have HR1 := hide h
  obtain ⟨A1, c1, rfl, hc1, hm1, h1⟩ := h
  unfold maxLen at hm1
  clear h1
  go_enter Tryz.func41, Tryz.ntmps41
  go_wp2_with fail
  generalize hW0 : ((w.alloc (.cells #[.int .i64 m0, .slice A1 ps.length c1] 24)).alloc (.cells #[.int .i64 0, .slice none 0 0] 41)).alloc (.cells #[.int .i64 m0, .slice none 0 0] 41) = W0
  have hB0 : Below w.heap.size w W0 := by rw [← hW0]; exact (by repeat (first | exact Below.refl _ _ | assumption | refine Below.setCell ?_ (by first | omega | (simp <;> omega)) _ | refine Below.alloc ?_ (by first | omega | (simp <;> omega)) _ | refine below_drewN ?_ _ | refine Below.drew ?_ | refine Below.trans ?_ (Below.mono (by assumption) (by first | omega | (simp <;> omega)))))
  have hs0 : W0.heap.size = w.heap.size + 3 := by rw [← hW0]; simp
  have x10 : W0.cell? ⟨w.heap.size + 1, 0, none⟩ = some (.int .i64 0) := by rw [← hW0]; simp [go_sem]
  have x11 : W0.cell? ⟨w.heap.size + 1, 1, none⟩ = some (.slice none 0 0) := by rw [← hW0]; simp [go_sem]
  have x20 : W0.cell? ⟨w.heap.size + 1 + 1, 0, none⟩ = some (.int .i64 m0) := by rw [← hW0]; simp [go_sem]
  have x21 : W0.cell? ⟨w.heap.size + 1 + 1, 1, none⟩ = some (.slice none 0 0) := by rw [← hW0]; simp [go_sem]
  have f1 : ∀ o, W0.frozen? ⟨w.heap.size + 1, o, none⟩ = false := by intro o; rw [← hW0]; simp [go_sem]
  have f2 : ∀ o, W0.frozen? ⟨w.heap.size + 1 + 1, o, none⟩ = false := by intro o; rw [← hW0]; simp [go_sem]
  clear hW0
  have q1 : w.heap.size + 1 < W0.heap.size := by omega
  have q2 : w.heap.size + 1 + 1 < W0.heap.size := by omega
  refine (toPartS_at _ ps _ ((RdB.keep HR1.out hB0 (Nat.le_refl _)).mono (by omega)) hn).mono ?_
  rintro e w1 ⟨rfl, ho1, hb1⟩
  have hs1 := hb1.size
  have hB1 := bnext hB0 hb1 (by omega)
  obtain ⟨hc, hf⟩ := bcell hb1
  have HO1 := hide ho1; clear ho1
  have HZ := hide hs0; clear hs0
  have HB1 := hide hB1; clear hB1
  go_wp2
  refine bodyPost_ret (v := .agg #[.int .i64 m0, .slice (some ⟨W0.heap.size, 0, none⟩) ps.length ps.length]) (by simp [results, Tryz.results41, go_sem, hc, q1, q2, x10, x11, x20, x21]) rfl ⟨_, rfl, ?_, ?_⟩
  · refine Own.mono (base := W0.heap.size) ?_ (by have := HZ.out; omega)
    repeat (first | exact HO1.out | refine Own.setFar ?_ (by have := HZ.out; simp [Value.ownBlock]; omega) _)
  · have := HB1.out
    exact (by repeat (first | exact Below.refl _ _ | assumption | refine Below.setCell ?_ (by first | omega | (simp <;> omega)) _ | refine Below.alloc ?_ (by first | omega | (simp <;> omega)) _ | refine below_drewN ?_ _ | refine Below.drew ?_ | refine Below.trans ?_ (Below.mono (by assumption) (by first | omega | (simp <;> omega)))))
set_option maxRecDepth 100000 in
set_option maxHeartbeats 4000000 in
theorem toForecast_any (v1 v2 : Value) (f : ForeD) (w : World) (h : RdFore w w.heap.size v1 v2 f) (hn1 : f.parts.length ≤ 1048576) (hn2 : f.surges.length ≤ 1048576) :
    Calls Tryz.prog 11 #[.agg #[.int .i64 f.m0, v1, v2]] w fun e w' => ∃ g1 g2, e = .returned (.agg #[.int .i64 f.m0, .slice (some ⟨g1, 0, none⟩) f.parts.length f.parts.length, .slice (some ⟨g2, 0, none⟩) f.surges.length f.surges.length]) ∧ Own w' w.heap.size 160 3 PartD.enc (.slice (some ⟨g1, 0, none⟩) f.parts.length f.parts.length) f.parts ∧ Own w' w.heap.size 125 3 SurgeD.enc (.slice (some ⟨g2, 0, none⟩) f.surges.length f.surges.length) f.surges ∧ Below w.heap.size w w' := by
  obtain ⟨m0, ps, ss⟩ := f
  obtain ⟨h1, h2⟩ := h
  simp only at h1 h2 hn1 hn2 ⊢
  have HR1 := hide h1; have HR2 := hide h2
  obtain ⟨A1, c1, rfl, hc1, hm1, h1⟩ := h1
  obtain ⟨A2, c2, rfl, hc2, hm2, h2⟩ := h2
  unfold maxLen at hm1 hm2
  clear h1 h2
  go_enter Tryz.func11, Tryz.ntmps11
  go_wp2_with fail
  generalize hW0 : ((w.alloc (.cells #[.int .i64 m0, .slice A1 ps.length c1, .slice A2 ss.length c2] 27)).alloc (.cells #[.int .i64 0, .slice none 0 0, .slice none 0 0] 44)).alloc (.cells #[.int .i64 0, .slice none 0 0, .slice none 0 0] 44) = W0
  have hB0 : Below w.heap.size w W0 := by rw [← hW0]; exact (by repeat (first | exact Below.refl _ _ | assumption | refine Below.setCell ?_ (by first | omega | (simp <;> omega)) _ | refine Below.alloc ?_ (by first | omega | (simp <;> omega)) _ | refine below_drewN ?_ _ | refine Below.drew ?_ | refine Below.trans ?_ (Below.mono (by assumption) (by first | omega | (simp <;> omega)))))
  have hs0 : W0.heap.size = w.heap.size + 3 := by rw [← hW0]; simp
  have x02 : W0.cell? ⟨w.heap.size, 2, none⟩ = some (.slice A2 ss.length c2) := by rw [← hW0]; simp [go_sem]
  have x10 : W0.cell? ⟨w.heap.size + 1, 0, none⟩ = some (.int .i64 0) := by rw [← hW0]; simp [go_sem]
  have x11 : W0.cell? ⟨w.heap.size + 1, 1, none⟩ = some (.slice none 0 0) := by rw [← hW0]; simp [go_sem]
  have x12 : W0.cell? ⟨w.heap.size + 1, 2, none⟩ = some (.slice none 0 0) := by rw [← hW0]; simp [go_sem]
  have x20 : W0.cell? ⟨w.heap.size + 1 + 1, 0, none⟩ = some (.int .i64 0) := by rw [← hW0]; simp [go_sem]
  have x21 : W0.cell? ⟨w.heap.size + 1 + 1, 1, none⟩ = some (.slice none 0 0) := by rw [← hW0]; simp [go_sem]
  have x22 : W0.cell? ⟨w.heap.size + 1 + 1, 2, none⟩ = some (.slice none 0 0) := by rw [← hW0]; simp [go_sem]
  have f1 : ∀ o, W0.frozen? ⟨w.heap.size + 1, o, none⟩ = false := by intro o; rw [← hW0]; simp [go_sem]
  have f2 : ∀ o, W0.frozen? ⟨w.heap.size + 1 + 1, o, none⟩ = false := by intro o; rw [← hW0]; simp [go_sem]
  clear hW0
  have q0 : w.heap.size < W0.heap.size := by omega
  have q1 : w.heap.size + 1 < W0.heap.size := by omega
  have q2 : w.heap.size + 1 + 1 < W0.heap.size := by omega
  refine (toTide_any m0 _ ps _ ((RdB.keep HR1.out hB0 (Nat.le_refl _)).mono (by omega)) hn1).mono ?_
  rintro e w1 ⟨g1, rfl, ho1, hb1⟩
  have hs1 := hb1.size
  have hB1 := bnext hB0 hb1 (by omega)
  obtain ⟨hc, hf⟩ := bcell hb1
  have hg1 := World.ownsRow.lt ho1 g1 rfl
  have HO1 := hide ho1; clear ho1
  have HZ := hide hs0; clear hs0
  go_wp2_with fail
  generalize hW1 : (w1.setCell ⟨w.heap.size + 1 + 1, 0, none⟩ (.int .i64 m0)).setCell ⟨w.heap.size + 1 + 1, 1, none⟩ (.slice (some ⟨g1, 0, none⟩) ps.length ps.length) = W1
  have hB2 : Below w.heap.size w W1 := by rw [← hW1]; exact (hB1.setCell (by simp <;> omega) _).setCell (by simp <;> omega) _
  have hs2 : w1.heap.size ≤ W1.heap.size := by rw [← hW1]; simp [World.setCell]
  have y10 : W1.cell? ⟨w.heap.size + 1, 0, none⟩ = some (.int .i64 0) := by rw [← hW1]; simp [go_sem, *, -hW1]
  have y11 : W1.cell? ⟨w.heap.size + 1, 1, none⟩ = some (.slice none 0 0) := by rw [← hW1]; simp [go_sem, *, -hW1]
  have y12 : W1.cell? ⟨w.heap.size + 1, 2, none⟩ = some (.slice none 0 0) := by rw [← hW1]; simp [go_sem, *, -hW1]
  have y20 : W1.cell? ⟨w.heap.size + 1 + 1, 0, none⟩ = some (.int .i64 m0) := by rw [← hW1]; simp [go_sem, *, -hW1]
  have y21 : W1.cell? ⟨w.heap.size + 1 + 1, 1, none⟩ = some (.slice (some ⟨g1, 0, none⟩) ps.length ps.length) := by rw [← hW1]; simp [go_sem, *, -hW1]
  have y22 : W1.cell? ⟨w.heap.size + 1 + 1, 2, none⟩ = some (.slice none 0 0) := by rw [← hW1]; simp [go_sem, *, -hW1]
  have e1 : ∀ o, W1.frozen? ⟨w.heap.size + 1, o, none⟩ = false := by intro o; rw [← hW1]; simp [go_sem, *, -hW1]
  have e2 : ∀ o, W1.frozen? ⟨w.heap.size + 1 + 1, o, none⟩ = false := by intro o; rw [← hW1]; simp [go_sem, *, -hW1]
  have HO2 := hide (show Own W1 W0.heap.size 160 3 PartD.enc (.slice (some ⟨g1, 0, none⟩) ps.length ps.length) ps by rw [← hW1]; exact Own.setFar (p := ⟨w.heap.size + 1 + 1, 1, none⟩) (Own.setFar (p := ⟨w.heap.size + 1 + 1, 0, none⟩) HO1.out (by simp [Value.ownBlock]; omega) _) (by simp [Value.ownBlock]; omega) _)
  clear hW1 hc hf x02 x10 x11 x12 x20 x21 x22 f1 f2 HO1
  refine (toSurgeS_at _ ss _ ((RdB.keep HR2.out hB2 (Nat.le_refl _)).mono (by omega)) hn2).mono ?_
  rintro e w2 ⟨rfl, ho2, hb2⟩
  have hs3 := hb2.size
  have HB3 := hide (bnext hB2 hb2 (by omega))
  have HO3 := hide ((HO2.out.below hb2))
  obtain ⟨hc, hf⟩ := bcell hb2
  have HO4 := hide ho2; clear ho2
  have hz3 : w.heap.size + 1 + 1 < W1.heap.size := by omega
  have hz4 : w.heap.size + 1 < W1.heap.size := by omega
  go_wp2
  refine bodyPost_ret (v := .agg #[.int .i64 m0, .slice (some ⟨g1, 0, none⟩) ps.length ps.length, .slice (some ⟨W1.heap.size, 0, none⟩) ss.length ss.length]) (by simp [results, Tryz.results11, go_sem, hc, hz3, hz4, y10, y11, y12, y20, y21, y22]) rfl ⟨_, _, rfl, ?_, ?_, ?_⟩
  · refine Own.mono (base := W0.heap.size) ?_ (by omega)
    repeat (first | exact HO3.out | refine Own.setFar ?_ (by simp [Value.ownBlock]; omega) _)
  · refine Own.mono (base := W1.heap.size) ?_ (by omega)
    repeat (first | exact HO4.out | refine Own.setFar ?_ (by simp [Value.ownBlock]; omega) _)
  · have := HB3.out
    exact (by repeat (first | exact Below.refl _ _ | assumption | refine Below.setCell ?_ (by first | omega | (simp <;> omega)) _ | refine Below.alloc ?_ (by first | omega | (simp <;> omega)) _ | refine below_drewN ?_ _ | refine Below.drew ?_ | refine Below.trans ?_ (Below.mono (by assumption) (by first | omega | (simp <;> omega)))))
theorem RdFore.below {w w' : World} {v1 v2 : Value} {f : ForeD} (h : RdFore w w.heap.size v1 v2 f) (hb : Below w.heap.size w w') : RdFore w' w'.heap.size v1 v2 f := (h.keep hb (Nat.le_refl _)).mono hb.size
theorem toForecastR_any (v1 v2 : Value) (f : ForeD) (w : World) (h : RdFore w w.heap.size v1 v2 f) (hn1 : f.parts.length ≤ 1048576) (hn2 : f.surges.length ≤ 1048576) :
    Calls Tryz.prog 11 #[.agg #[.int .i64 f.m0, v1, v2]] w fun e w' => ∃ g1 g2, e = .returned (.agg #[.int .i64 f.m0, .slice (some ⟨g1, 0, none⟩) f.parts.length f.parts.length, .slice (some ⟨g2, 0, none⟩) f.surges.length f.surges.length]) ∧ RdFore w' w'.heap.size (.slice (some ⟨g1, 0, none⟩) f.parts.length f.parts.length) (.slice (some ⟨g2, 0, none⟩) f.surges.length f.surges.length) f ∧ Below w.heap.size w w' := by
  refine (toForecast_any v1 v2 f w h hn1 hn2).mono ?_
  rintro e w' ⟨g1, g2, rfl, ho1, ho2, hb⟩
  exact ⟨g1, g2, rfl, ⟨Own.rd PartD.enc_len ho1, Own.rd SurgeD.enc_len ho2⟩, hb⟩
set_option maxRecDepth 100000 in
set_option maxHeartbeats 4000000 in
theorem eqTide_any (m m' : Int) (v1 u1 : Value) (ps qs : List PartD) (w : World) (h : RdPart w v1 ps) (h' : RdPart w u1 qs) :
    Calls Tryz.prog 52 #[.agg #[.int .i64 m, v1], .agg #[.int .i64 m', u1]] w fun e w' => e = .returned (.bool (decide (m = m' ∧ ps = qs))) ∧ Below w.heap.size w w' := by
  have HR := hide h; have HS := hide h'
  obtain ⟨A1, c1, rfl, _, _, _⟩ := h
  obtain ⟨A2, c2, rfl, _, _, _⟩ := h'
  go_enter Tryz.func52, Tryz.ntmps52
  go_wp2_with (go_at_call 97; with_reducible refine (eqPartS_any _ _ ps qs _ ((RdB.keep HR.out (B' := w.heap.size) (by repeat (first | exact Below.refl _ _ | assumption | refine Below.setCell ?_ (by first | omega | (simp <;> omega)) _ | refine Below.alloc ?_ (by first | omega | (simp <;> omega)) _ | refine below_drewN ?_ _ | refine Below.drew ?_ | refine Below.trans ?_ (Below.mono (by assumption) (by first | omega | (simp <;> omega))))) (Nat.le_refl _)).mono (by first | omega | (simp <;> omega))) ((RdB.keep HS.out (B' := w.heap.size) (by repeat (first | exact Below.refl _ _ | assumption | refine Below.setCell ?_ (by first | omega | (simp <;> omega)) _ | refine Below.alloc ?_ (by first | omega | (simp <;> omega)) _ | refine below_drewN ?_ _ | refine Below.drew ?_ | refine Below.trans ?_ (Below.mono (by assumption) (by first | omega | (simp <;> omega))))) (Nat.le_refl _)).mono (by first | omega | (simp <;> omega)))).mono ?_; rintro e w1 ⟨rfl, hb'⟩; (first | have hb := bnext hb hb' | have hb := bnextA hb hb' | have hb := hb'); clear hb'; obtain ⟨hc, hf⟩ := bcell hb; have hz := hb.size; (try simp at hz))
  all_goals go_ret
  all_goals exact ⟨by simp_all, (by repeat (first | exact Below.refl _ _ | assumption | refine Below.setCell ?_ (by first | omega | (simp <;> omega)) _ | refine Below.alloc ?_ (by first | omega | (simp <;> omega)) _ | refine below_drewN ?_ _ | refine Below.drew ?_ | refine Below.trans ?_ (Below.mono (by assumption) (by first | omega | (simp <;> omega)))))⟩
def ForeD.eqB (f g : ForeD) : Bool := decide (f.m0 = g.m0 ∧ f.parts = g.parts) && decide (f.surges = g.surges)
theorem ForeD.eqB_self (f : ForeD) : f.eqB f = true := by simp [ForeD.eqB]
set_option maxRecDepth 100000 in
set_option maxHeartbeats 4000000 in
theorem eqForecast_any (v1 v2 u1 u2 : Value) (f g : ForeD) (w : World) (h : RdFore w w.heap.size v1 v2 f) (h' : RdFore w w.heap.size u1 u2 g) :
    Calls Tryz.prog 16 #[.agg #[.int .i64 f.m0, v1, v2], .agg #[.int .i64 g.m0, u1, u2]] w fun e w' => e = .returned (.bool (f.eqB g)) ∧ Below w.heap.size w w' := by
  have HR1 := hide h.1; have HR2 := hide h.2; have HS1 := hide h'.1; have HS2 := hide h'.2
  obtain ⟨⟨A1, c1, rfl, _, _, _⟩, ⟨A2, c2, rfl, _, _, _⟩⟩ := h
  obtain ⟨⟨A3, c3, rfl, _, _, _⟩, ⟨A4, c4, rfl, _, _, _⟩⟩ := h'
  rcases ch2 (decide (f.m0 = g.m0 ∧ f.parts = g.parts)) (decide (f.surges = g.surges)) with ⟨g1, g2⟩ | g1 | ⟨g1, g2⟩
  all_goals
    go_enter Tryz.func16, Tryz.ntmps16
    go_wp2_with (first
      | (go_at_call 52; with_reducible refine (eqTide_any f.m0 g.m0 _ _ f.parts g.parts _ ((RdB.keep HR1.out (B' := w.heap.size) (by repeat (first | exact Below.refl _ _ | assumption | refine Below.setCell ?_ (by first | omega | (simp <;> omega)) _ | refine Below.alloc ?_ (by first | omega | (simp <;> omega)) _ | refine below_drewN ?_ _ | refine Below.drew ?_ | refine Below.trans ?_ (Below.mono (by assumption) (by first | omega | (simp <;> omega))))) (Nat.le_refl _)).mono (by first | omega | (simp <;> omega))) ((RdB.keep HS1.out (B' := w.heap.size) (by repeat (first | exact Below.refl _ _ | assumption | refine Below.setCell ?_ (by first | omega | (simp <;> omega)) _ | refine Below.alloc ?_ (by first | omega | (simp <;> omega)) _ | refine below_drewN ?_ _ | refine Below.drew ?_ | refine Below.trans ?_ (Below.mono (by assumption) (by first | omega | (simp <;> omega))))) (Nat.le_refl _)).mono (by first | omega | (simp <;> omega)))).mono ?_; rintro e w1 ⟨rfl, hb'⟩; rw [g1]; (first | have hb := bnext hb hb' | have hb := bnextA hb hb' | have hb := hb'); clear hb'; obtain ⟨hc, hf⟩ := bcell hb; have hz := hb.size; (try simp at hz))
      | (go_at_call 53; with_reducible refine (eqSurgeS_any _ _ f.surges g.surges _ ((RdB.keep HR2.out (B' := w.heap.size) (by repeat (first | exact Below.refl _ _ | assumption | refine Below.setCell ?_ (by first | omega | (simp <;> omega)) _ | refine Below.alloc ?_ (by first | omega | (simp <;> omega)) _ | refine below_drewN ?_ _ | refine Below.drew ?_ | refine Below.trans ?_ (Below.mono (by assumption) (by first | omega | (simp <;> omega))))) (Nat.le_refl _)).mono (by first | omega | (simp <;> omega))) ((RdB.keep HS2.out (B' := w.heap.size) (by repeat (first | exact Below.refl _ _ | assumption | refine Below.setCell ?_ (by first | omega | (simp <;> omega)) _ | refine Below.alloc ?_ (by first | omega | (simp <;> omega)) _ | refine below_drewN ?_ _ | refine Below.drew ?_ | refine Below.trans ?_ (Below.mono (by assumption) (by first | omega | (simp <;> omega))))) (Nat.le_refl _)).mono (by first | omega | (simp <;> omega)))).mono ?_; rintro e w1 ⟨rfl, hb'⟩; rw [g2]; (first | have hb := bnext hb hb' | have hb := bnextA hb hb' | have hb := hb'); clear hb'; obtain ⟨hc, hf⟩ := bcell hb; have hz := hb.size; (try simp at hz)))
    go_ret
    exact ⟨by first | (unfold ForeD.eqB; rw [g1, g2]; rfl) | (unfold ForeD.eqB; rw [g1]; rfl), (by repeat (first | exact Below.refl _ _ | assumption | refine Below.setCell ?_ (by first | omega | (simp <;> omega)) _ | refine Below.alloc ?_ (by first | omega | (simp <;> omega)) _ | refine below_drewN ?_ _ | refine Below.drew ?_ | refine Below.trans ?_ (Below.mono (by assumption) (by first | omega | (simp <;> omega)))))⟩
set_option maxHeartbeats 4000000 in
theorem szTide_any (m0 : Int) (v1 : Value) (ps : List PartD) (left : Int) (w : World) (h : RdPart w v1 ps) (hl0 : 0 ≤ left) (hl1 : left ≤ 1048576) :
    Calls Tryz.prog 36 #[.agg #[.int .i64 m0, v1], .int .i64 left] w fun e w' => ∃ r : Int, e = .returned (.int .i64 r) ∧ (0 ≤ r → r ≤ left ∧ (ps.length : Int) ≤ left) ∧ r ≤ 1048576 ∧ Below w.heap.size w w' := by
  have HR := hide h
  obtain ⟨A1, c1, rfl, _, _, _⟩ := h
  go_enter Tryz.func36, Tryz.ntmps36
  go_wp2_with fail
  refine (szPartS_any _ ps left _ ((RdB.keep HR.out (B' := w.heap.size) (by repeat (first | exact Below.refl _ _ | assumption | refine Below.setCell ?_ (by first | omega | (simp <;> omega)) _ | refine Below.alloc ?_ (by first | omega | (simp <;> omega)) _ | refine below_drewN ?_ _ | refine Below.drew ?_ | refine Below.trans ?_ (Below.mono (by assumption) (by first | omega | (simp <;> omega))))) (Nat.le_refl _)).mono (by first | omega | (simp <;> omega))) hl0 hl1).mono ?_
  rintro e w1 ⟨r1, rfl, hr1, hm1, hb'⟩; (first | have hb := bnext hb hb' | have hb := bnextA hb hb' | have hb := hb'); clear hb'; obtain ⟨hc, hf⟩ := bcell hb; have hz := hb.size; (try simp at hz)
  have HR1 := hide hr1; clear hr1
  by_cases hn : r1 < 0
  · go_wp2_with fail
    go_ret
    exact ⟨-1, rfl, by omega, by omega, (by repeat (first | exact Below.refl _ _ | assumption | refine Below.setCell ?_ (by first | omega | (simp <;> omega)) _ | refine Below.alloc ?_ (by first | omega | (simp <;> omega)) _ | refine below_drewN ?_ _ | refine Below.drew ?_ | refine Below.trans ?_ (Below.mono (by assumption) (by first | omega | (simp <;> omega)))))⟩
  · have hn' : 0 ≤ r1 := by omega
    go_wp2_with fail
    go_ret
    have a1 := HR1.out hn'
    exact ⟨r1, rfl, fun _ => ⟨by omega, by omega⟩, hm1, (by repeat (first | exact Below.refl _ _ | assumption | refine Below.setCell ?_ (by first | omega | (simp <;> omega)) _ | refine Below.alloc ?_ (by first | omega | (simp <;> omega)) _ | refine below_drewN ?_ _ | refine Below.drew ?_ | refine Below.trans ?_ (Below.mono (by assumption) (by first | omega | (simp <;> omega)))))⟩
set_option maxRecDepth 100000 in
set_option maxHeartbeats 4000000 in
theorem szForecast_any (v1 v2 : Value) (f : ForeD) (left : Int) (w : World) (h : RdFore w w.heap.size v1 v2 f) (hl0 : 0 ≤ left) (hl1 : left ≤ 1048576) :
    Calls Tryz.prog 7 #[.agg #[.int .i64 f.m0, v1, v2], .int .i64 left] w fun e w' => ∃ r : Int, e = .returned (.int .i64 r) ∧ (0 ≤ r → r ≤ left ∧ (f.parts.length : Int) ≤ left ∧ (f.surges.length : Int) ≤ left) ∧ r ≤ 1048576 ∧ Below w.heap.size w w' := by
  have HR1 := hide h.1; have HR2 := hide h.2
  obtain ⟨⟨A1, c1, rfl, _, _, _⟩, ⟨A2, c2, rfl, _, _, _⟩⟩ := h
  go_enter Tryz.func7, Tryz.ntmps7
  go_wp2_with fail
  refine (szTide_any _ _ f.parts left _ ((RdB.keep HR1.out (B' := w.heap.size) (by repeat (first | exact Below.refl _ _ | assumption | refine Below.setCell ?_ (by first | omega | (simp <;> omega)) _ | refine Below.alloc ?_ (by first | omega | (simp <;> omega)) _ | refine below_drewN ?_ _ | refine Below.drew ?_ | refine Below.trans ?_ (Below.mono (by assumption) (by first | omega | (simp <;> omega))))) (Nat.le_refl _)).mono (by first | omega | (simp <;> omega))) hl0 hl1).mono ?_
  rintro e w1 ⟨r1, rfl, hr1, hm1, hb'⟩; (first | have hb := bnext hb hb' | have hb := bnextA hb hb' | have hb := hb'); clear hb'; obtain ⟨hc, hf⟩ := bcell hb; have hz := hb.size; (try simp at hz)
  have HQ1 := hide hr1; clear hr1
  by_cases hn : r1 < 0
  · go_wp2_with fail
    go_ret
    exact ⟨-1, rfl, by omega, by omega, (by repeat (first | exact Below.refl _ _ | assumption | refine Below.setCell ?_ (by first | omega | (simp <;> omega)) _ | refine Below.alloc ?_ (by first | omega | (simp <;> omega)) _ | refine below_drewN ?_ _ | refine Below.drew ?_ | refine Below.trans ?_ (Below.mono (by assumption) (by first | omega | (simp <;> omega)))))⟩
  · have hn' : 0 ≤ r1 := by omega
    go_wp2_with fail
    refine (szSurgeS_any _ f.surges r1 _ ((RdB.keep HR2.out (B' := w.heap.size) (by repeat (first | exact Below.refl _ _ | assumption | refine Below.setCell ?_ (by first | omega | (simp <;> omega)) _ | refine Below.alloc ?_ (by first | omega | (simp <;> omega)) _ | refine below_drewN ?_ _ | refine Below.drew ?_ | refine Below.trans ?_ (Below.mono (by assumption) (by first | omega | (simp <;> omega))))) (Nat.le_refl _)).mono (by first | omega | (simp <;> omega))) hn' hm1).mono ?_
    rintro e w2 ⟨r2, rfl, hr2, hm2, hb'⟩; (first | have hb := bnext hb hb' | have hb := bnextA hb hb' | have hb := hb'); clear hb'; obtain ⟨hc, hf⟩ := bcell hb; have hz := hb.size; (try simp at hz)
    have HQ2 := hide hr2; clear hr2
    by_cases hp : r2 < 0
    · go_wp2_with fail
      go_ret
      exact ⟨-1, rfl, by omega, by omega, (by repeat (first | exact Below.refl _ _ | assumption | refine Below.setCell ?_ (by first | omega | (simp <;> omega)) _ | refine Below.alloc ?_ (by first | omega | (simp <;> omega)) _ | refine below_drewN ?_ _ | refine Below.drew ?_ | refine Below.trans ?_ (Below.mono (by assumption) (by first | omega | (simp <;> omega)))))⟩
    · have hp' : 0 ≤ r2 := by omega
      go_wp2_with fail
      go_ret
      have a1 := HQ1.out hn'; have a2 := HQ2.out hp'
      exact ⟨r2, rfl, fun _ => ⟨by omega, by omega, by omega⟩, hm2, (by repeat (first | exact Below.refl _ _ | assumption | refine Below.setCell ?_ (by first | omega | (simp <;> omega)) _ | refine Below.alloc ?_ (by first | omega | (simp <;> omega)) _ | refine below_drewN ?_ _ | refine Below.drew ?_ | refine Below.trans ?_ (Below.mono (by assumption) (by first | omega | (simp <;> omega)))))⟩
section
open Go.ChangeShapes Go.WideShapes Go.Deep
set_option maxRecDepth 100000 in
theorem openForecast {H : Type} {enc : TypeId × Value → H} {W : World} {r : Reach} {b0 : Nat} {v : Value} {d : DataW H} {p : List MemPlace} (hv : Value.okWide Tryz.prog W r b0 27 v)
    (h : DataW.Trod enc Tryz.prog W 0 (fun _ => true) true 27 v d p) : ∃ (v1 v2 : Value) (f : ForeD), v = .agg #[.int .i64 f.m0, v1, v2] ∧ RdFore W W.heap.size v1 v2 f ∧ (Lit.int .i64 f.m0).wf = true ∧ (∀ x ∈ f.parts, x.ok) ∧ ∀ x ∈ f.surges, x.ok := by
  have k3 : Tryz.prog.cellsOf 27 = 3 := by kernel_rfl
  have k2 : Tryz.prog.cellsOf 24 = 2 := by kernel_rfl
  have k1 : Tryz.prog.cellsOf 25 = 1 := by kernel_rfl
  have k0 : Tryz.prog.cellsOf 3 = 1 := by kernel_rfl
  have k4 : Tryz.prog.cellsOf 22 = 1 := by kernel_rfl
  obtain ⟨cs, rfl, hsz⟩ := okWide_struct Tryz.underlying27 hv
  obtain ⟨l⟩ := cs
  have hl : l.length = 3 := by simpa [k3] using hsz
  obtain ⟨c0, c1, c2, rfl⟩ := list3 hl
  obtain ⟨fuel, hf⟩ := h
  obtain ⟨y0, y1, n, -, -, hy0, hy1⟩ := trod_struct2 Tryz.underlying27 hf
  simp only [k2] at hy0
  simp only [k1] at hy1
  obtain ⟨z0, z1, n2, -, -, hz0, hz1⟩ := trod_struct2 Tryz.underlying24 hy0
  simp only [k0] at hz0
  simp only [k4] at hz1
  obtain ⟨a0, e0, -, w0⟩ := DataW.trod_int Tryz.underlying3 (show DataW.trod enc Tryz.prog W 0 (fun _ => true) true n2 3 [c0] = some z0 from hz0)
  simp only [List.cons.injEq, and_true] at e0; subst e0
  obtain ⟨ps, hp, hpo⟩ := openPartT (show DataW.trod enc Tryz.prog W 0 (fun _ => true) true n2 22 [c1] = some z1 from hz1)
  obtain ⟨ss, hs, hso⟩ := openSurgeT (show DataW.trod enc Tryz.prog W 0 (fun _ => true) true n 25 [c2] = some y1 from hy1)
  exact ⟨c1, c2, ⟨a0, ps, ss⟩, rfl, ⟨hp, hs⟩, w0, hpo, hso⟩
end
end Go.Proofs.YtpbcbdjjpkenjaaGreat

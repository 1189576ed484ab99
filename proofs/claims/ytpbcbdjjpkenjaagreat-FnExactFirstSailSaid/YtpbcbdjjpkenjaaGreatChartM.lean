/- Marks in charts: conversion with the memory that it owns, and what marks turn. No condition. -/
import Derived.Test.YtpbcbdjjpkenjaaGreatChartL
import Derived.Test.YtpbcbdjjpkenjaaGreatTou
namespace Go.Proofs.YtpbcbdjjpkenjaaGreat
open Go.RowKit
set_option linter.unusedVariables false
set_option maxRecDepth 100000 in
set_option maxHeartbeats 4000000 in
theorem toChartO_any (v1 v2 : Value) (c : ChartD) (w : World) (h : RdChart w w.heap.size v1 v2 c) (hn1 : c.points.length ≤ 1048576) (hn2 : c.segs.length ≤ 1048576) :
    Calls Tryz.prog 12 #[.agg #[v1, v2]] w fun e w' => ∃ g1 g2, e = .returned (.agg #[.slice (some ⟨g1, 0, none⟩) c.points.length c.points.length, .slice (some ⟨g2, 0, none⟩) c.segs.length c.segs.length]) ∧ Own w' w.heap.size 128 2 PointD.enc (.slice (some ⟨g1, 0, none⟩) c.points.length c.points.length) c.points ∧ Own w' w.heap.size 131 5 SegmentD.enc (.slice (some ⟨g2, 0, none⟩) c.segs.length c.segs.length) c.segs ∧ Below w.heap.size w w' := by
  obtain ⟨h1, h2⟩ := h
  have HR1 := hide h1; have HR2 := hide h2
  obtain ⟨A1, c1, rfl, hc1, hm1, h1⟩ := h1
  obtain ⟨A2, c2, rfl, hc2, hm2, h2⟩ := h2
  unfold maxLen at hm1 hm2
  clear h1 h2
  go_enter Tryz.func12, Tryz.ntmps12
  go_wp2_with fail
  generalize hW0 : ((w.alloc (.cells #[.slice A1 c.points.length c1, .slice A2 c.segs.length c2] 31)).alloc (.cells #[.slice none 0 0, .slice none 0 0] 49)).alloc (.cells #[.slice none 0 0, .slice none 0 0] 49) = W0
  have hB0 : Below w.heap.size w W0 := by rw [← hW0]; exact (by repeat (first | exact Below.refl _ _ | assumption | refine Below.setCell ?_ (by first | omega | (simp <;> omega)) _ | refine Below.alloc ?_ (by first | omega | (simp <;> omega)) _ | refine below_drewN ?_ _ | refine Below.drew ?_ | refine Below.trans ?_ (Below.mono (by assumption) (by first | omega | (simp <;> omega)))))
  have hs0 : W0.heap.size = w.heap.size + 3 := by rw [← hW0]; simp
  have x00 : W0.cell? ⟨w.heap.size, 0, none⟩ = some (.slice A1 c.points.length c1) := by rw [← hW0]; simp [go_sem]
  have x01 : W0.cell? ⟨w.heap.size, 1, none⟩ = some (.slice A2 c.segs.length c2) := by rw [← hW0]; simp [go_sem]
  have x10 : W0.cell? ⟨w.heap.size + 1, 0, none⟩ = some (.slice none 0 0) := by rw [← hW0]; simp [go_sem]
  have x11 : W0.cell? ⟨w.heap.size + 1, 1, none⟩ = some (.slice none 0 0) := by rw [← hW0]; simp [go_sem]
  have x20 : W0.cell? ⟨w.heap.size + 1 + 1, 0, none⟩ = some (.slice none 0 0) := by rw [← hW0]; simp [go_sem]
  have x21 : W0.cell? ⟨w.heap.size + 1 + 1, 1, none⟩ = some (.slice none 0 0) := by rw [← hW0]; simp [go_sem]
  have f1 : ∀ o, W0.frozen? ⟨w.heap.size + 1, o, none⟩ = false := by intro o; rw [← hW0]; simp [go_sem]
  have f2 : ∀ o, W0.frozen? ⟨w.heap.size + 1 + 1, o, none⟩ = false := by intro o; rw [← hW0]; simp [go_sem]
  clear hW0
  have q0 : w.heap.size < W0.heap.size := by omega
  have q1 : w.heap.size + 1 < W0.heap.size := by omega
  have q2 : w.heap.size + 1 + 1 < W0.heap.size := by omega
  have z00 : w.heap.size ≠ W0.heap.size := by omega
  refine (toPointS_at _ c.points _ ((HR1.out.keep hB0 (Nat.le_refl _)).mono (by omega)) hn1).mono ?_
  rintro e w1 ⟨rfl, ho1, hb1⟩
  have hs1 := hb1.size
  have hB1 := bnext hB0 hb1 (by omega)
  obtain ⟨hc, hf⟩ := bcell hb1
  have HO1 := hide ho1; clear ho1
  have HZ := hide hs0; clear hs0
  go_wp2_with fail
  generalize hW1 : w1.setCell ⟨w.heap.size + 1 + 1, 0, none⟩ (.slice (some ⟨W0.heap.size, 0, none⟩) c.points.length c.points.length) = W1
  have hB2 : Below w.heap.size w W1 := by rw [← hW1]; exact hB1.setCell (by simp <;> omega) _
  have hs2 : w1.heap.size ≤ W1.heap.size := by rw [← hW1]; simp [World.setCell]
  have y01 : W1.cell? ⟨w.heap.size, 1, none⟩ = some (.slice A2 c.segs.length c2) := by rw [← hW1]; simp [go_sem, *, -hW1]
  have y10 : W1.cell? ⟨w.heap.size + 1, 0, none⟩ = some (.slice none 0 0) := by rw [← hW1]; simp [go_sem, *, -hW1]
  have y11 : W1.cell? ⟨w.heap.size + 1, 1, none⟩ = some (.slice none 0 0) := by rw [← hW1]; simp [go_sem, *, -hW1]
  have y20 : W1.cell? ⟨w.heap.size + 1 + 1, 0, none⟩ = some (.slice (some ⟨W0.heap.size, 0, none⟩) c.points.length c.points.length) := by rw [← hW1]; simp [go_sem, *, -hW1]
  have y21 : W1.cell? ⟨w.heap.size + 1 + 1, 1, none⟩ = some (.slice none 0 0) := by rw [← hW1]; simp [go_sem, *, -hW1]
  have g1 : ∀ o, W1.frozen? ⟨w.heap.size + 1, o, none⟩ = false := by intro o; rw [← hW1]; simp [go_sem, *, -hW1]
  have g2 : ∀ o, W1.frozen? ⟨w.heap.size + 1 + 1, o, none⟩ = false := by intro o; rw [← hW1]; simp [go_sem, *, -hW1]
  have HO2 := hide (show Own W1 W0.heap.size 128 2 PointD.enc (.slice (some ⟨W0.heap.size, 0, none⟩) c.points.length c.points.length) c.points by rw [← hW1]; exact HO1.out.setFar (by simp [Value.ownBlock]; omega) _)
  clear hW1 hc hf x00 x01 x10 x11 x20 x21 f1 f2
  refine (toSegmentS_at _ c.segs _ ((HR2.out.keep hB2 (Nat.le_refl _)).mono (by omega)) hn2).mono ?_
  rintro e w2 ⟨rfl, ho2, hb2⟩
  have hs3 := hb2.size
  have hB3 := bnext hB2 hb2 (by omega)
  have HO3 := hide ((HO2.out.below hb2))
  obtain ⟨hc, hf⟩ := bcell hb2
  have HO4 := hide ho2; clear ho2
  have hz3 : w.heap.size + 1 + 1 < W1.heap.size := by omega
  have hz4 : w.heap.size + 1 < W1.heap.size := by omega
  have hz5 : w.heap.size < W1.heap.size := by omega
  go_wp2
  have hz7 : w.heap.size + 1 < w2.heap.size := by omega
  refine bodyPost_ret (v := .agg #[.slice (some ⟨W0.heap.size, 0, none⟩) c.points.length c.points.length, .slice (some ⟨W1.heap.size, 0, none⟩) c.segs.length c.segs.length]) (by simp [results, Tryz.results12, go_sem, hc, hz3, hz4, y10, y11, y20, y21]) rfl ⟨_, _, rfl, ?_, ?_, (by repeat (first | exact Below.refl _ _ | assumption | refine Below.setCell ?_ (by first | omega | (simp <;> omega)) _ | refine Below.alloc ?_ (by first | omega | (simp <;> omega)) _ | refine below_drewN ?_ _ | refine Below.drew ?_ | refine Below.trans ?_ (Below.mono (by assumption) (by first | omega | (simp <;> omega)))))⟩
  · refine Own.mono (base := W0.heap.size) ?_ (by omega)
    repeat (first | exact HO3.out | refine Own.setFar ?_ (by simp [Value.ownBlock]; omega) _)
  · refine Own.mono (base := W1.heap.size) ?_ (by omega)
    repeat (first | exact HO4.out | refine Own.setFar ?_ (by simp [Value.ownBlock]; omega) _)
theorem rowKeepC {w w' : World} {base sz n : Nat} {T : TypeId} {v : Value} {cs : List Value} {r : Option Nat} (h : w.ownsRow base T sz v n cs) (hg : w.grownBy w' r) (hne : ∀ g, v.ownBlock = some g → r ≠ some g) : w'.ownsRow base T sz v n cs :=
  World.ownsRow.kept h hg (by cases hv : v.ownBlock with | none => exact .inl rfl | some g => exact .inr (fun e => hne g hv e.symm))
theorem types_neC {w : World} {base base' sz sz' n n' : Nat} {T T' : TypeId} {v v' : Value} {cs cs' : List Value} (h : w.ownsRow base T sz v n cs) (h' : w.ownsRow base' T' sz' v' n' cs') (hT : T ≠ T') : ∀ g, v.ownBlock = some g → v'.ownBlock ≠ some g := by
  intro g hg hg'
  rcases h.2 with ⟨rfl, _⟩ | ⟨g1, _, cur1, rfl, _, e1, _⟩
  · simp [Value.ownBlock] at hg
  rcases h'.2 with ⟨rfl, _⟩ | ⟨g2, _, cur2, rfl, _, e2, _⟩
  · simp [Value.ownBlock] at hg'
  simp [Value.ownBlock] at hg hg'
  subst hg; subst hg'
  rw [e1] at e2
  simp at e2
  exact hT e2.2
set_option maxRecDepth 100000 in
set_option maxHeartbeats 4000000 in
theorem markChart_any (v1 v2 : Value) (c : ChartD) (k : Int) (lo hi : Nat) (w : World) (h1 : OwnB w lo hi 128 2 PointD.enc v1 c.points) (h2 : OwnB w lo hi 131 5 SegmentD.enc v2 c.segs) (hhi : hi ≤ w.heap.size) (hk0 : 1 ≤ k) (hk1 : k ≤ 1073741824) (hn1 : c.points.length ≤ 1048576) (hn2 : c.segs.length ≤ 1048576) :
    Calls Tryz.prog 19 #[.agg #[v1, v2], .int .i64 k] w fun e w' => e = .returned (.int .i64 (k + c.points.length * 2 + c.segs.length * 5)) ∧ Tou lo hi w w' := by
  obtain ⟨A1, c1, hv1, -⟩ := Own.rd PointD.enc_len h1.1
  obtain ⟨A2, c2, hv2, -⟩ := Own.rd SegmentD.enc_len h2.1
  subst hv1; subst hv2
  have H1 := hide h1; have H2 := hide h2
  have hne := types_neC h2.1 h1.1 (by decide)
  have HNE := hide hne
  clear h1 h2 hne
  go_enter Tryz.func19, Tryz.ntmps19
  go_wp2_with fail
  have hBa : Below w.heap.size w (w.alloc (.cells #[.slice A1 c.points.length c1, .slice A2 c.segs.length c2] 49)) := (Below.refl _ _).alloc (Nat.le_refl _) _
  refine (markPointS_any _ c.points k lo _ (H1.out.1.below hBa) hk0 (by omega) (by omega)).mono ?_
  rintro e w1 ⟨rfl, ho1, hg1⟩
  have hl0 : w.heap.size < w1.heap.size := by have := hg1.size; simp at this; omega
  have y1 : w1.cell? ⟨w.heap.size, 1, none⟩ = some (.slice A2 c.segs.length c2) := by
    rw [World.cell?_of_block (hg1.block w.heap.size (by simp) (fun e => by have := H1.out.2 _ e.symm; omega))]; simp [go_sem]
  have hT1 : Tou lo hi w w1 := (Tou.trans ⟨hBa.os, hBa.tape, hBa.output, hBa.size, fun q hq _ => hBa.block q hq⟩ (Tou.grown hg1 (fun q hq => ⟨(World.ownsRow.lt H1.out.1 q hq).1, H1.out.2 q hq⟩)))
  have HO2 := hide (rowKeepC (H2.out.1.below hBa) hg1 (fun g hg => HNE.out g hg))
  have HG := hide hg1; clear hg1
  go_wp2_with fail
  refine (markSegmentS_any _ c.segs _ lo _ HO2.out (by omega) (by omega) (by omega)).mono ?_
  rintro e w2 ⟨rfl, ho2, hg2⟩
  have hT2 := hT1.trans (Tou.grown hg2 (fun q hq => ⟨(World.ownsRow.lt H2.out.1 q hq).1, H2.out.2 q hq⟩))
  go_wp2
  go_ret
  exact ⟨rfl, hT2⟩
end Go.Proofs.YtpbcbdjjpkenjaaGreat

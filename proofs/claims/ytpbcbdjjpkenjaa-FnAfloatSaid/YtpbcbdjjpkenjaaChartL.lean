/- Charts as the laws' helpers handle them: conversion, comparison, size, opening. No condition. -/
import Derived.Test.YtpbcbdjjpkenjaaChart
namespace Go.Proofs.Ytpbcbdjjpkenjaa
open Go.RowKit
set_option linter.unusedVariables false
theorem RdChart.below {w w' : World} {v1 v2 : Value} {c : ChartD} (h : RdChart w w.heap.size v1 v2 c) (hb : Below w.heap.size w w') : RdChart w' w'.heap.size v1 v2 c := (h.keep hb (Nat.le_refl _)).mono hb.size
set_option maxRecDepth 100000 in
set_option maxHeartbeats 4000000 in
theorem toChart_any (v1 v2 : Value) (c : ChartD) (w : World) (h : RdChart w w.heap.size v1 v2 c) (hn1 : c.points.length ≤ 1048576) (hn2 : c.segs.length ≤ 1048576) :
    Calls Try.prog 29 #[.agg #[v1, v2]] w fun e w' => ∃ g1 g2, e = .returned (.agg #[.slice (some ⟨g1, 0, none⟩) c.points.length c.points.length, .slice (some ⟨g2, 0, none⟩) c.segs.length c.segs.length]) ∧ RdChart w' w'.heap.size (.slice (some ⟨g1, 0, none⟩) c.points.length c.points.length) (.slice (some ⟨g2, 0, none⟩) c.segs.length c.segs.length) c ∧ Below w.heap.size w w' := by
  obtain ⟨h1, h2⟩ := h
  have HR1 := hide h1; have HR2 := hide h2
  obtain ⟨A1, c1, rfl, hc1, hm1, h1⟩ := h1
  obtain ⟨A2, c2, rfl, hc2, hm2, h2⟩ := h2
  unfold maxLen at hm1 hm2
  clear h1 h2
  go_enter Try.func29, Try.ntmps29
  go_wp2_with fail
  generalize hW0 : ((w.alloc (.cells #[.slice A1 c.points.length c1, .slice A2 c.segs.length c2] 60)).alloc (.cells #[.slice none 0 0, .slice none 0 0] 33)).alloc (.cells #[.slice none 0 0, .slice none 0 0] 33) = W0
  have hB0 : Below w.heap.size w W0 := by rw [← hW0]; exact (by repeat (first | exact Below.refl _ _ | assumption | refine Below.setCell ?_ (by first | omega | (simp <;> omega)) _ | refine Below.alloc ?_ (by first | omega | (simp <;> omega)) _ | refine below_drewN ?_ _ | refine Below.drew ?_ | refine Below.trans ?_ (Below.mono (by assumption) (by first | omega | (simp <;> omega)))))
  have hs0 : W0.heap.size = w.heap.size + 3 := by rw [← hW0]; simp
  have x00 : W0.cell? ⟨w.heap.size, 0, none⟩ = some (.slice A1 c.points.length c1) := by rw [← hW0]; simp [go_sem]
  have x01 : W0.cell? ⟨w.heap.size, 1, none⟩ = some (.slice A2 c.segs.length c2) := by rw [← hW0]; simp [go_sem]
  have x10 : W0.cell? ⟨w.heap.size + 1, 0, none⟩ = some (.slice none 0 0) := by rw [← hW0]; simp [go_sem]
  have x11 : W0.cell? ⟨w.heap.size + 1, 1, none⟩ = some (.slice none 0 0) := by rw [← hW0]; simp [go_sem]
  have x20 : W0.cell? ⟨w.heap.size + 1 + 1, 0, none⟩ = some (.slice none 0 0) := by rw [← hW0]; simp [go_sem]
  have x21 : W0.cell? ⟨w.heap.size + 1 + 1, 1, none⟩ = some (.slice none 0 0) := by rw [← hW0]; simp [go_sem]
  have f1 : ∀ o, W0.frozen? ⟨w.heap.size + 1, o, none⟩ = false := by intro o; rw [← hW0]; simp [go_sem]
  have f2 : ∀ o, W0.frozen? ⟨w.heap.size + 1 + 1, o, none⟩ = false := by intro o; rw [← hW0]; simp [go_sem]
  clear hW0
  have q0 : w.heap.size < W0.heap.size := by omega
  have q1 : w.heap.size + 1 < W0.heap.size := by omega
  have q2 : w.heap.size + 1 + 1 < W0.heap.size := by omega
  have z00 : w.heap.size ≠ W0.heap.size := by omega
  refine (toPointS_at _ c.points _ ((HR1.out.keep hB0 (Nat.le_refl _)).mono (by omega)) hn1).mono ?_
  rintro e w1 ⟨rfl, ho1, hb1⟩
  have hs1 := hb1.size
  have hB1 := bnext hB0 hb1 (by omega)
  obtain ⟨hc, hf⟩ := bcell hb1
  have HO1 := hide ho1; clear ho1
  have HZ := hide hs0; clear hs0
  go_wp2_with fail
  generalize hW1 : w1.setCell ⟨w.heap.size + 1 + 1, 0, none⟩ (.slice (some ⟨W0.heap.size, 0, none⟩) c.points.length c.points.length) = W1
  have hB2 : Below w.heap.size w W1 := by rw [← hW1]; exact hB1.setCell (by simp <;> omega) _
  have hs2 : w1.heap.size ≤ W1.heap.size := by rw [← hW1]; simp [World.setCell]
  have y01 : W1.cell? ⟨w.heap.size, 1, none⟩ = some (.slice A2 c.segs.length c2) := by rw [← hW1]; simp [go_sem, *, -hW1]
  have y10 : W1.cell? ⟨w.heap.size + 1, 0, none⟩ = some (.slice none 0 0) := by rw [← hW1]; simp [go_sem, *, -hW1]
  have y11 : W1.cell? ⟨w.heap.size + 1, 1, none⟩ = some (.slice none 0 0) := by rw [← hW1]; simp [go_sem, *, -hW1]
  have y20 : W1.cell? ⟨w.heap.size + 1 + 1, 0, none⟩ = some (.slice (some ⟨W0.heap.size, 0, none⟩) c.points.length c.points.length) := by rw [← hW1]; simp [go_sem, *, -hW1]
  have y21 : W1.cell? ⟨w.heap.size + 1 + 1, 1, none⟩ = some (.slice none 0 0) := by rw [← hW1]; simp [go_sem, *, -hW1]
  have g1 : ∀ o, W1.frozen? ⟨w.heap.size + 1, o, none⟩ = false := by intro o; rw [← hW1]; simp [go_sem, *, -hW1]
  have g2 : ∀ o, W1.frozen? ⟨w.heap.size + 1 + 1, o, none⟩ = false := by intro o; rw [← hW1]; simp [go_sem, *, -hW1]
  have HO2 := hide (show Own W1 W0.heap.size 123 2 PointD.enc (.slice (some ⟨W0.heap.size, 0, none⟩) c.points.length c.points.length) c.points by rw [← hW1]; exact HO1.out.setFar (by simp [Value.ownBlock]; omega) _)
  clear hW1 hc hf x00 x01 x10 x11 x20 x21 f1 f2
  refine (toSegmentS_at _ c.segs _ ((HR2.out.keep hB2 (Nat.le_refl _)).mono (by omega)) hn2).mono ?_
  rintro e w2 ⟨rfl, ho2, hb2⟩
  have hs3 := hb2.size
  have hB3 := bnext hB2 hb2 (by omega)
  have HO3 := hide ((HO2.out.below hb2))
  obtain ⟨hc, hf⟩ := bcell hb2
  have HO4 := hide ho2; clear ho2
  have hz3 : w.heap.size + 1 + 1 < W1.heap.size := by omega
  have hz4 : w.heap.size + 1 < W1.heap.size := by omega
  have hz5 : w.heap.size < W1.heap.size := by omega
  go_wp2
  have hz7 : w.heap.size + 1 < w2.heap.size := by omega
  refine bodyPost_ret (v := .agg #[.slice (some ⟨W0.heap.size, 0, none⟩) c.points.length c.points.length, .slice (some ⟨W1.heap.size, 0, none⟩) c.segs.length c.segs.length]) (by simp [results, Try.results29, go_sem, hc, hz3, hz4, y10, y11, y20, y21]) rfl ⟨_, _, rfl, ⟨?_, ?_⟩, (by repeat (first | exact Below.refl _ _ | assumption | refine Below.setCell ?_ (by first | omega | (simp <;> omega)) _ | refine Below.alloc ?_ (by first | omega | (simp <;> omega)) _ | refine below_drewN ?_ _ | refine Below.drew ?_ | refine Below.trans ?_ (Below.mono (by assumption) (by first | omega | (simp <;> omega)))))⟩
  · refine Own.rd (base := W0.heap.size) (T := 123) PointD.enc_len ?_
    repeat (first | exact HO3.out | refine Own.setFar ?_ (by simp [Value.ownBlock]; omega) _)
  · refine Own.rd (base := W1.heap.size) (T := 49) SegmentD.enc_len ?_
    repeat (first | exact HO4.out | refine Own.setFar ?_ (by simp [Value.ownBlock]; omega) _)
theorem ChartD.ext_iff' (x y : ChartD) : (x.points = y.points ∧ x.segs = y.segs) ↔ x = y := by cases x; cases y; simp
instance : DecidableEq ChartD := fun x y => decidable_of_iff _ (ChartD.ext_iff' x y)
set_option maxRecDepth 100000 in
set_option maxHeartbeats 4000000 in
theorem eqChart_any (v1 v2 u1 u2 : Value) (c d : ChartD) (w : World) (h : RdChart w w.heap.size v1 v2 c) (h' : RdChart w w.heap.size u1 u2 d) :
    Calls Try.prog 32 #[.agg #[v1, v2], .agg #[u1, u2]] w fun e w' => e = .returned (.bool (decide (c = d))) ∧ Below w.heap.size w w' := by
  have HR := hide h; have HS := hide h'
  obtain ⟨⟨A1, c1, rfl, _, _, _⟩, ⟨A2, c2, rfl, _, _, _⟩⟩ := h
  obtain ⟨⟨A3, c3, rfl, _, _, _⟩, ⟨A4, c4, rfl, _, _, _⟩⟩ := h'
  go_enter Try.func32, Try.ntmps32
  go_wp2_with (first
    | (go_at_call 78; refine (eqPointS_any _ _ c.points d.points _ ((HR.out.1.keep (B' := w.heap.size) (by repeat (first | exact Below.refl _ _ | assumption | refine Below.setCell ?_ (by first | omega | (simp <;> omega)) _ | refine Below.alloc ?_ (by first | omega | (simp <;> omega)) _ | refine below_drewN ?_ _ | refine Below.drew ?_ | refine Below.trans ?_ (Below.mono (by assumption) (by first | omega | (simp <;> omega))))) (Nat.le_refl _)).mono (by first | omega | (simp <;> omega))) ((HS.out.1.keep (B' := w.heap.size) (by repeat (first | exact Below.refl _ _ | assumption | refine Below.setCell ?_ (by first | omega | (simp <;> omega)) _ | refine Below.alloc ?_ (by first | omega | (simp <;> omega)) _ | refine below_drewN ?_ _ | refine Below.drew ?_ | refine Below.trans ?_ (Below.mono (by assumption) (by first | omega | (simp <;> omega))))) (Nat.le_refl _)).mono (by first | omega | (simp <;> omega)))).mono ?_; rintro e w1 ⟨rfl, hb'⟩; (first | have hb := bnext hb hb' | have hb := bnextA hb hb' | have hb := hb'); clear hb'; obtain ⟨hc, hf⟩ := bcell hb; have hz := hb.size; (try simp at hz))
    | (go_at_call 79; refine (eqSegmentS_any _ _ c.segs d.segs _ ((HR.out.2.keep (B' := w.heap.size) (by repeat (first | exact Below.refl _ _ | assumption | refine Below.setCell ?_ (by first | omega | (simp <;> omega)) _ | refine Below.alloc ?_ (by first | omega | (simp <;> omega)) _ | refine below_drewN ?_ _ | refine Below.drew ?_ | refine Below.trans ?_ (Below.mono (by assumption) (by first | omega | (simp <;> omega))))) (Nat.le_refl _)).mono (by first | omega | (simp <;> omega))) ((HS.out.2.keep (B' := w.heap.size) (by repeat (first | exact Below.refl _ _ | assumption | refine Below.setCell ?_ (by first | omega | (simp <;> omega)) _ | refine Below.alloc ?_ (by first | omega | (simp <;> omega)) _ | refine below_drewN ?_ _ | refine Below.drew ?_ | refine Below.trans ?_ (Below.mono (by assumption) (by first | omega | (simp <;> omega))))) (Nat.le_refl _)).mono (by first | omega | (simp <;> omega)))).mono ?_; rintro e w1 ⟨rfl, hb'⟩; (first | have hb := bnext hb hb' | have hb := bnextA hb hb' | have hb := hb'); clear hb'; obtain ⟨hc, hf⟩ := bcell hb; have hz := hb.size; (try simp at hz)))
  all_goals go_ret
  all_goals exact ⟨by have e := ChartD.ext_iff' c d; simp_all [-hc, -hf], (by repeat (first | exact Below.refl _ _ | assumption | refine Below.setCell ?_ (by first | omega | (simp <;> omega)) _ | refine Below.alloc ?_ (by first | omega | (simp <;> omega)) _ | refine below_drewN ?_ _ | refine Below.drew ?_ | refine Below.trans ?_ (Below.mono (by assumption) (by first | omega | (simp <;> omega)))))⟩
set_option maxRecDepth 100000 in
set_option maxHeartbeats 4000000 in
theorem szChart_any (v1 v2 : Value) (c : ChartD) (left : Int) (w : World) (h : RdChart w w.heap.size v1 v2 c) (hok : ∀ x ∈ c.points, x.name.size ≤ maxLen) (hl0 : 0 ≤ left) (hl1 : left ≤ 1048576) :
    Calls Try.prog 25 #[.agg #[v1, v2], .int .i64 left] w fun e w' => ∃ r : Int, e = .returned (.int .i64 r) ∧ (0 ≤ r → r ≤ left ∧ (c.points.length : Int) ≤ left ∧ (c.segs.length : Int) ≤ left) ∧ r ≤ 1048576 ∧ Below w.heap.size w w' := by
  have HR := hide h
  obtain ⟨⟨A1, c1, rfl, _, _, _⟩, ⟨A2, c2, rfl, _, _, _⟩⟩ := h
  go_enter Try.func25, Try.ntmps25
  go_wp2_with fail
  refine (szPointS_any _ c.points left _ ((HR.out.1.keep (B' := w.heap.size) (by repeat (first | exact Below.refl _ _ | assumption | refine Below.setCell ?_ (by first | omega | (simp <;> omega)) _ | refine Below.alloc ?_ (by first | omega | (simp <;> omega)) _ | refine below_drewN ?_ _ | refine Below.drew ?_ | refine Below.trans ?_ (Below.mono (by assumption) (by first | omega | (simp <;> omega))))) (Nat.le_refl _)).mono (by first | omega | (simp <;> omega))) hok hl0 hl1).mono ?_
  rintro e w1 ⟨r1, rfl, hr1, hm1, hb'⟩; (first | have hb := bnext hb hb' | have hb := bnextA hb hb' | have hb := hb'); clear hb'; obtain ⟨hc, hf⟩ := bcell hb; have hz := hb.size; (try simp at hz)
  have HR1 := hide hr1; clear hr1
  by_cases hn : r1 < 0
  · go_wp2_with fail
    go_ret
    exact ⟨-1, rfl, by omega, by omega, (by repeat (first | exact Below.refl _ _ | assumption | refine Below.setCell ?_ (by first | omega | (simp <;> omega)) _ | refine Below.alloc ?_ (by first | omega | (simp <;> omega)) _ | refine below_drewN ?_ _ | refine Below.drew ?_ | refine Below.trans ?_ (Below.mono (by assumption) (by first | omega | (simp <;> omega)))))⟩
  · have hn' : 0 ≤ r1 := by omega
    go_wp2_with fail
    refine (szSegmentS_any _ c.segs r1 _ ((HR.out.2.keep (B' := w.heap.size) (by repeat (first | exact Below.refl _ _ | assumption | refine Below.setCell ?_ (by first | omega | (simp <;> omega)) _ | refine Below.alloc ?_ (by first | omega | (simp <;> omega)) _ | refine below_drewN ?_ _ | refine Below.drew ?_ | refine Below.trans ?_ (Below.mono (by assumption) (by first | omega | (simp <;> omega))))) (Nat.le_refl _)).mono (by first | omega | (simp <;> omega))) hn' hm1).mono ?_
    rintro e w2 ⟨r2, rfl, hr2, hm2, hb'⟩; (first | have hb := bnext hb hb' | have hb := bnextA hb hb' | have hb := hb'); clear hb'; obtain ⟨hc, hf⟩ := bcell hb; have hz := hb.size; (try simp at hz)
    have HR2 := hide hr2; clear hr2
    by_cases hp : r2 < 0
    · go_wp2_with fail
      go_ret
      exact ⟨-1, rfl, by omega, by omega, (by repeat (first | exact Below.refl _ _ | assumption | refine Below.setCell ?_ (by first | omega | (simp <;> omega)) _ | refine Below.alloc ?_ (by first | omega | (simp <;> omega)) _ | refine below_drewN ?_ _ | refine Below.drew ?_ | refine Below.trans ?_ (Below.mono (by assumption) (by first | omega | (simp <;> omega)))))⟩
    · have hp' : 0 ≤ r2 := by omega
      go_wp2_with fail
      go_ret
      have a1 := HR1.out hn'; have a2 := HR2.out hp'
      exact ⟨r2, rfl, fun _ => ⟨by omega, by omega, by omega⟩, hm2, (by repeat (first | exact Below.refl _ _ | assumption | refine Below.setCell ?_ (by first | omega | (simp <;> omega)) _ | refine Below.alloc ?_ (by first | omega | (simp <;> omega)) _ | refine below_drewN ?_ _ | refine Below.drew ?_ | refine Below.trans ?_ (Below.mono (by assumption) (by first | omega | (simp <;> omega)))))⟩
section
open Go.ChangeShapes Go.WideShapes Go.Deep
set_option maxRecDepth 100000 in
theorem openChart {H : Type} {enc : TypeId × Value → H} {W : World} {r : Reach} {b0 : Nat} {v : Value} {d : DataW H} {p : List MemPlace} (hv : Value.okWide Try.prog W r b0 60 v)
    (h : DataW.Trod enc Try.prog W 0 (fun _ => true) true 60 v d p) : ∃ (v1 v2 : Value) (c : ChartD), v = .agg #[v1, v2] ∧ RdChart W W.heap.size v1 v2 c ∧ (∀ x ∈ c.points, x.name.size ≤ maxLen) ∧ ∀ x ∈ c.segs, x.ok := by
  obtain ⟨cs, rfl, hl, hf⟩ := open_struct Try.underlying60 (by kernel_rfl) (by kernel_rfl) hv h
  obtain ⟨c0, c1, rfl⟩ := list2 hl
  obtain ⟨u0, y0, m0, g0, hy0⟩ := hf 0 _ rfl
  have g0 := Option.some.inj g0; subst g0
  obtain ⟨ps, hp, hpo⟩ := openPointT hy0
  obtain ⟨u1, y1, m1, g1, hy1⟩ := hf 1 _ rfl
  have g1 := Option.some.inj g1; subst g1
  obtain ⟨ss, hs, hso⟩ := openSegmentT hy1
  exact ⟨_, _, ⟨ps, ss⟩, rfl, ⟨hp, hs⟩, hpo, hso⟩
end
end Go.Proofs.Ytpbcbdjjpkenjaa

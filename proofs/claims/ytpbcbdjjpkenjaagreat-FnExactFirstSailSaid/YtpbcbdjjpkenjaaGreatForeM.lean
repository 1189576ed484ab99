/- Marks in forecasts: what they turn. No condition. -/
import Derived.Test.YtpbcbdjjpkenjaaGreatForeL
import Derived.Test.YtpbcbdjjpkenjaaGreatChartM
namespace Go.Proofs.YtpbcbdjjpkenjaaGreat
open Go.RowKit
set_option linter.unusedVariables false
set_option maxRecDepth 100000 in
set_option maxHeartbeats 4000000 in
theorem markTide_any (m0 : Int) (v1 : Value) (ps : List PartD) (k : Int) (lo : Nat) (w : World) (h1 : Own w lo 160 3 PartD.enc v1 ps) (hhi : lo ≤ w.heap.size) (hk0 : 1 ≤ k) (hk1 : k ≤ 1073741824) (hn1 : ps.length ≤ 1048576) :
    Calls Tryz.prog 56 #[.agg #[.int .i64 m0, v1], .int .i64 k] w fun e w' => e = .returned (.int .i64 (k + ps.length * 3)) ∧ w.grownBy w' v1.ownBlock := by
  obtain ⟨A1, c1, hv1, -⟩ := Own.rd PartD.enc_len h1
  subst hv1
  have H1 := hide h1
  clear h1
  go_enter Tryz.func56, Tryz.ntmps56
  go_wp2_with fail
  have hBa : Below w.heap.size w (w.alloc (.cells #[.int .i64 m0, .slice A1 ps.length c1] 41)) := (Below.refl _ _).alloc (Nat.le_refl _) _
  refine (markPartS_any _ ps k lo _ (H1.out.below hBa) hk0 (by omega) (by omega)).mono ?_
  rintro e w1 ⟨rfl, ho1, hg1⟩
  have HG := hide (show w.grownBy w1 (Value.slice A1 ps.length c1).ownBlock from ⟨hg1.os.trans hBa.os, hg1.tape.trans hBa.tape, hg1.output.trans hBa.output, Nat.le_trans hBa.size hg1.size, fun q hq hne => (hg1.block q (Nat.lt_of_lt_of_le hq hBa.size) hne).trans (hBa.block q hq)⟩)
  clear hg1 ho1
  go_wp2
  go_ret
  exact ⟨rfl, HG.out⟩
set_option maxRecDepth 100000 in
set_option maxHeartbeats 4000000 in
theorem markForecast_any (v1 v2 : Value) (f : ForeD) (k : Int) (lo hi : Nat) (w : World) (h1 : OwnB w lo hi 160 3 PartD.enc v1 f.parts) (h2 : OwnB w lo hi 125 3 SurgeD.enc v2 f.surges) (hlo : lo ≤ w.heap.size) (hhi : hi ≤ w.heap.size) (hk0 : 1 ≤ k) (hk1 : k ≤ 1048576) (hn1 : f.parts.length ≤ 1048576) (hn2 : f.surges.length ≤ 1048576) :
    Calls Tryz.prog 18 #[.agg #[.int .i64 f.m0, v1, v2], .int .i64 k] w fun e w' => e = .returned (.int .i64 (k + f.parts.length * 3 + f.surges.length * 3)) ∧ Tou lo hi w w' := by
  obtain ⟨m0, ps, ss⟩ := f
  simp only at h1 h2 hn1 hn2 ⊢
  obtain ⟨A1, c1, hv1, -⟩ := Own.rd PartD.enc_len h1.1
  obtain ⟨A2, c2, hv2, -⟩ := Own.rd SurgeD.enc_len h2.1
  subst hv1; subst hv2
  have H1 := hide h1; have H2 := hide h2
  have hne := types_neC h2.1 h1.1 (by decide)
  have HNE := hide hne
  clear h1 h2 hne
  go_enter Tryz.func18, Tryz.ntmps18
  go_wp2_with fail
  have hBa : Below w.heap.size w (w.alloc (.cells #[.int .i64 m0, .slice A1 ps.length c1, .slice A2 ss.length c2] 44)) := (Below.refl _ _).alloc (Nat.le_refl _) _
  refine (markTide_any m0 _ ps k lo _ (H1.out.1.below hBa) (by simp; omega) hk0 (by omega) hn1).mono ?_
  rintro e w1 ⟨rfl, hg1⟩
  have hl0 : w.heap.size < w1.heap.size := by have := hg1.size; simp at this; omega
  have y2 : w1.cell? ⟨w.heap.size, 2, none⟩ = some (.slice A2 ss.length c2) := by
    rw [World.cell?_of_block (hg1.block w.heap.size (by simp) (fun e => by have := H1.out.2 _ e.symm; omega))]; simp [go_sem]
  have hT1 : Tou lo hi w w1 := (Tou.trans ⟨hBa.os, hBa.tape, hBa.output, hBa.size, fun q hq _ => hBa.block q hq⟩ (Tou.grown hg1 (fun q hq => ⟨(World.ownsRow.lt H1.out.1 q hq).1, H1.out.2 q hq⟩)))
  have HO2 := hide (rowKeepC (H2.out.1.below hBa) hg1 (fun g hg => HNE.out g hg))
  have HG := hide hg1; clear hg1
  go_wp2_with fail
  refine (markSurgeS_any _ ss _ lo _ HO2.out (by omega) (by omega) (by omega)).mono ?_
  rintro e w2 ⟨rfl, ho2, hg2⟩
  have hT2 := hT1.trans (Tou.grown hg2 (fun q hq => ⟨(World.ownsRow.lt H2.out.1 q hq).1, H2.out.2 q hq⟩))
  go_wp2
  go_ret
  exact ⟨rfl, hT2⟩
end Go.Proofs.YtpbcbdjjpkenjaaGreat
